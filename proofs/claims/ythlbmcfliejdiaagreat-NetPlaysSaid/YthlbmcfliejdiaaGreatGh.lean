/- The contracts of the three methods does, and of shows. The contract of Do. The contract of Do, where the act has no error. (Printed by wip/gen_do.py.). The contract of Do, by the plain model. (Printed by wip/gen_do3.py.). Acts and logs in memory. The contract of Play. -/
import Derived.Test.YthlbmcfliejdiaaGreatGg
import Derived.RangeFuncLeaves
import Derived.Deep.LoopGhost
section
set_option linter.unusedVariables false
set_option linter.unusedSimpArgs false
namespace Go.Proofs.YthlbmcfliejdiaaGreat
open Go.RowKit

theorem sizeSn : (Tryz.prog.info? 52).map (·.size) = some 13 := by kernel_rfl
section
variable {w : World} {g : Nat} {t : TypeId} {c0 c1 c2 c3 c4 c5 c6 c7 c8 c9 c10 c11 c12 : Value}
theorem blc13 (h : w.heap[g]? = some (.cells #[c0, c1, c2, c3, c4, c5, c6, c7, c8, c9, c10, c11, c12] t (0, 0))) :
    (w.cell? ⟨g, 0, none⟩ = some c0 ∧ w.cell? ⟨g, 1, none⟩ = some c1 ∧ w.cell? ⟨g, 2, none⟩ = some c2 ∧ w.cell? ⟨g, 3, none⟩ = some c3 ∧ w.cell? ⟨g, 4, none⟩ = some c4 ∧ w.cell? ⟨g, 5, none⟩ = some c5 ∧ w.cell? ⟨g, 6, none⟩ = some c6 ∧ w.cell? ⟨g, 7, none⟩ = some c7 ∧ w.cell? ⟨g, 8, none⟩ = some c8 ∧ w.cell? ⟨g, 9, none⟩ = some c9 ∧ w.cell? ⟨g, 10, none⟩ = some c10 ∧ w.cell? ⟨g, 11, none⟩ = some c11 ∧ w.cell? ⟨g, 12, none⟩ = some c12) ∧
    (w.frozen? ⟨g, 0, none⟩ = false ∧ w.frozen? ⟨g, 1, none⟩ = false ∧ w.frozen? ⟨g, 2, none⟩ = false ∧ w.frozen? ⟨g, 3, none⟩ = false ∧ w.frozen? ⟨g, 4, none⟩ = false ∧ w.frozen? ⟨g, 5, none⟩ = false ∧ w.frozen? ⟨g, 6, none⟩ = false ∧ w.frozen? ⟨g, 7, none⟩ = false ∧ w.frozen? ⟨g, 8, none⟩ = false ∧ w.frozen? ⟨g, 9, none⟩ = false ∧ w.frozen? ⟨g, 10, none⟩ = false ∧ w.frozen? ⟨g, 11, none⟩ = false ∧ w.frozen? ⟨g, 12, none⟩ = false) :=
  ⟨⟨(bl_cell h 0).trans rfl, (bl_cell h 1).trans rfl, (bl_cell h 2).trans rfl, (bl_cell h 3).trans rfl, (bl_cell h 4).trans rfl, (bl_cell h 5).trans rfl, (bl_cell h 6).trans rfl, (bl_cell h 7).trans rfl, (bl_cell h 8).trans rfl, (bl_cell h 9).trans rfl, (bl_cell h 10).trans rfl, (bl_cell h 11).trans rfl, (bl_cell h 12).trans rfl⟩, bl_frozen h 0, bl_frozen h 1, bl_frozen h 2, bl_frozen h 3, bl_frozen h 4, bl_frozen h 5, bl_frozen h 6, bl_frozen h 7, bl_frozen h 8, bl_frozen h 9, bl_frozen h 10, bl_frozen h 11, bl_frozen h 12⟩
end
/-- A store of all the cells of what is seen. -/
def put13 (w : World) (b : Nat) (a0 a1 a2 a3 a4 a5 a6 a7 a8 a9 a10 a11 a12 : Value) : World :=
  ((((((((((((w.setCell ⟨b, 0, none⟩ a0).setCell ⟨b, 1, none⟩ a1).setCell ⟨b, 2, none⟩ a2).setCell ⟨b, 3, none⟩ a3).setCell ⟨b, 4, none⟩ a4).setCell ⟨b, 5, none⟩ a5).setCell ⟨b, 6, none⟩ a6).setCell ⟨b, 7, none⟩ a7).setCell ⟨b, 8, none⟩ a8).setCell ⟨b, 9, none⟩ a9).setCell ⟨b, 10, none⟩ a10).setCell ⟨b, 11, none⟩ a11).setCell ⟨b, 12, none⟩ a12
section
variable {w w0 : World} {b B g : Nat} {a0 a1 a2 a3 a4 a5 a6 a7 a8 a9 a10 a11 a12 : Value}
theorem put13_all {t : TypeId} {fr : Nat × Nat} {c0 c1 c2 c3 c4 c5 c6 c7 c8 c9 c10 c11 c12 : Value} (h : w.heap[b]? = some (.cells #[c0, c1, c2, c3, c4, c5, c6, c7, c8, c9, c10, c11, c12] t fr)) :
    (put13 w b a0 a1 a2 a3 a4 a5 a6 a7 a8 a9 a10 a11 a12).heap[b]? = some (.cells #[a0, a1, a2, a3, a4, a5, a6, a7, a8, a9, a10, a11, a12] t fr) := by
  unfold put13
  simpa using bl_set (bl_set (bl_set (bl_set (bl_set (bl_set (bl_set (bl_set (bl_set (bl_set (bl_set (bl_set (bl_set h 0 a0) 1 a1) 2 a2) 3 a3) 4 a4) 5 a5) 6 a6) 7 a7) 8 a8) 9 a9) 10 a10) 11 a11) 12 a12
theorem put13_size : (put13 w b a0 a1 a2 a3 a4 a5 a6 a7 a8 a9 a10 a11 a12).heap.size = w.heap.size := by simp [put13, World.setCell]
theorem put13_far {k : Nat} {o : Obj} (h : w.heap[k]? = some o) (hne : k ≠ b) : (put13 w b a0 a1 a2 a3 a4 a5 a6 a7 a8 a9 a10 a11 a12).heap[k]? = some o :=
  bl_far (bl_far (bl_far (bl_far (bl_far (bl_far (bl_far (bl_far (bl_far (bl_far (bl_far (bl_far (bl_far h hne _) hne _) hne _) hne _) hne _) hne _) hne _) hne _) hne _) hne _) hne _) hne _) hne _
theorem put13_below {w1 : World} (h : Below B w1 w) (hb : B ≤ b) : Below B w1 (put13 w b a0 a1 a2 a3 a4 a5 a6 a7 a8 a9 a10 a11 a12) := by
  unfold put13
  repeat (refine Below.setCell ?_ (by exact hb) _)
  exact h
theorem put13_own {α : Type} [Enc α] {e : TypeId} {v : Value} {xs : List α} (h : Own w B e v xs) (hne : v.ownBlock ≠ some b) : Own (put13 w b a0 a1 a2 a3 a4 a5 a6 a7 a8 a9 a10 a11 a12) B e v xs := by
  unfold put13
  repeat (refine Own.setCell ?_ (by exact hne) _)
  exact h
theorem put13_net {v : Value} {x : Nt} (h : NetO w B v x) (hb : b < B) : NetO (put13 w b a0 a1 a2 a3 a4 a5 a6 a7 a8 a9 a10 a11 a12) B v x := by
  unfold put13
  repeat (refine NetO.far ?_ (by exact hb) _)
  exact h
theorem put13_mth {r : Rs} (h : mthW B g w0 r w) (hB : B ≤ b) (hb : w0.heap.size ≤ b) (hg : g < w0.heap.size) (hf : Free w g b) : mthW B g w0 r (put13 w b a0 a1 a2 a3 a4 a5 a6 a7 a8 a9 a10 a11 a12) := by
  have step : ∀ (W : World) (j : Nat) (u : Value), mthW B g w0 r W ∧ Free W g b → mthW B g w0 r (W.setCell ⟨b, j, none⟩ u) ∧ Free (W.setCell ⟨b, j, none⟩ u) g b := fun W j u h => ⟨h.1.store hB hb hg h.2 j u, h.2.set h.2.2.1 j u⟩
  unfold put13
  exact (step _ _ _ (step _ _ _ (step _ _ _ (step _ _ _ (step _ _ _ (step _ _ _ (step _ _ _ (step _ _ _ (step _ _ _ (step _ _ _ (step _ _ _ (step _ _ _ (step _ _ _ ⟨h, hf⟩))))))))))))).1
end
theorem mthW.alloc {B g : Nat} {w w1 : World} {r : Rs} (h : mthW B g w r w1) (o : Obj) (hB : B ≤ w.heap.size) (hg : g < w.heap.size) : mthW B g w r (w1.alloc o) := h.below (below_alloc (Below.refl _ _) _) hB hg

/-- What does leaves: the error, the letter and the timers of the method. -/
def snQ (B g : Nat) (w : World) (r : Rs) (e : Ending) (w' : World) : Prop := ∃ u, e = .returned (.agg #[.int .i64 0, .int .i64 0, .int .i64 0, .int .i64 0, .string ⟨#[]⟩, .int .i64 r.e, .int .i64 0, .int .i64 r.l.id, .int .i64 r.l.fr, .int .i64 r.l.to, .int .i64 r.l.rd, .string r.l.data, u]) ∧ Own w' B 86 u r.ts ∧ mthW B g w r w'
set_option maxHeartbeats 2000000 in
set_option maxRecDepth 100000 in
theorem doesL {fid : FuncId} {lb : Array Value} (B g : Nat) (x : Nt) (r : Rs) (w : World) (eg : ∀ args w, (callFunc fid args).run Tryz.prog w = .ok (.enter fid args) w) (hS : St w B g x) (hts : r.ts = [])
    (hf : ∀ w1, Below w.heap.size w w1 → St w1 B g x → Calls Tryz.prog fid (#[.pointer (some ⟨g, 0, none⟩)] ++ lb) w1 (ltQ B g w1 r)) :
    Calls Tryz.prog 144 #[.func (.func fid) #[] lb, .pointer (some ⟨g, 0, none⟩)] w (snQ B g w r) := by
  have hfn := Free.new hS (.cells #[.int .i64 0, .int .i64 0, .int .i64 0, .int .i64 0, .string ⟨#[]⟩, .int .i64 0, .int .i64 0, .int .i64 0, .int .i64 0, .int .i64 0, .int .i64 0, .string ⟨#[]⟩, .slice none 0 0] 52)
  have hm := hf _ (below_alloc (Below.refl _ _) _) (hS.alloc (.cells #[.int .i64 0, .int .i64 0, .int .i64 0, .int .i64 0, .string ⟨#[]⟩, .int .i64 0, .int .i64 0, .int .i64 0, .int .i64 0, .int .i64 0, .int .i64 0, .string ⟨#[]⟩, .slice none 0 0] 52))
  have hlt := hS.lt
  have hbs := hS.base
  have HM := Lib.hid hm
  have HTS := Lib.hid hts
  clear hf hm hts hS
  go_enter Tryz.func144, Tryz.ntmps144
  go_wp2_with (go_at_fn fid; refine HM.out.mono ?_; rintro e w2 ⟨rfl, hQ⟩; have hfr := (hQ.frm (by simp; omega)) w.heap.size hfn; have HFR := Lib.hid hfr.2; have hz := hfr.1.trans (bl_new w _); have hlz := bl_lt hz; have HQ := Lib.hid hQ; clear hQ hfr; obtain ⟨⟨d0, d1, d2, d3, d4, d5, d6, d7, d8, d9, d10, d11, d12⟩, e0, e1, e2, e3, e4, e5, e6, e7, e8, e9, e10, e11, e12⟩ := blc13 hz)
  exact ret_c Tryz.results144 w.heap.size 52 #[.int .i64 0, .int .i64 0, .int .i64 0, .int .i64 0, .string ⟨#[]⟩, .int .i64 r.e, .int .i64 0, .int .i64 r.l.id, .int .i64 r.l.fr, .int .i64 r.l.to, .int .i64 r.l.rd, .string r.l.data, .slice none 0 0] _ rfl (bl_alloc (put13_all hz) _) Tryz.underlying52 rfl sizeSn rfl
    ⟨_, rfl, by rw [HTS.out]; exact Own.nil _ _ _, (put13_mth (HQ.out.back (below_alloc (Below.refl _ _) _) hbs hlt) hbs (Nat.le_refl _) hlt HFR.out).alloc _ hbs hlt⟩
set_option maxHeartbeats 2000000 in
set_option maxRecDepth 100000 in
theorem doesP {fid : FuncId} {lb : Array Value} (B g : Nat) (x : Nt) (r : Rs) (w : World) (eg : ∀ args w, (callFunc fid args).run Tryz.prog w = .ok (.enter fid args) w) (hS : St w B g x) (hl : r.l = zLt) (hts : r.ts = [])
    (hf : ∀ w1, Below w.heap.size w w1 → St w1 B g x → Calls Tryz.prog fid (#[.pointer (some ⟨g, 0, none⟩)] ++ lb) w1 (plQ B g w1 r)) :
    Calls Tryz.prog 145 #[.func (.func fid) #[] lb, .pointer (some ⟨g, 0, none⟩)] w (snQ B g w r) := by
  have hfn := Free.new hS (.cells #[.int .i64 0, .int .i64 0, .int .i64 0, .int .i64 0, .string ⟨#[]⟩, .int .i64 0, .int .i64 0, .int .i64 0, .int .i64 0, .int .i64 0, .int .i64 0, .string ⟨#[]⟩, .slice none 0 0] 52)
  have hm := hf _ (below_alloc (Below.refl _ _) _) (hS.alloc (.cells #[.int .i64 0, .int .i64 0, .int .i64 0, .int .i64 0, .string ⟨#[]⟩, .int .i64 0, .int .i64 0, .int .i64 0, .int .i64 0, .int .i64 0, .int .i64 0, .string ⟨#[]⟩, .slice none 0 0] 52))
  have hlt := hS.lt
  have hbs := hS.base
  have HM := Lib.hid hm
  have HTS := Lib.hid hts
  have HL := Lib.hid hl
  clear hf hm hts hS hl
  go_enter Tryz.func145, Tryz.ntmps145
  go_wp2_with (go_at_fn fid; refine HM.out.mono ?_; rintro e w2 ⟨rfl, hQ⟩; have hfr := (hQ.frm (by simp; omega)) w.heap.size hfn; have HFR := Lib.hid hfr.2; have hz := hfr.1.trans (bl_new w _); have hlz := bl_lt hz; have HQ := Lib.hid hQ; clear hQ hfr; obtain ⟨⟨d0, d1, d2, d3, d4, d5, d6, d7, d8, d9, d10, d11, d12⟩, e0, e1, e2, e3, e4, e5, e6, e7, e8, e9, e10, e11, e12⟩ := blc13 hz)
  exact ret_c Tryz.results145 w.heap.size 52 #[.int .i64 0, .int .i64 0, .int .i64 0, .int .i64 0, .string ⟨#[]⟩, .int .i64 r.e, .int .i64 0, .int .i64 0, .int .i64 0, .int .i64 0, .int .i64 0, .string ⟨#[]⟩, .slice none 0 0] _ rfl (put13_all hz) Tryz.underlying52 rfl sizeSn rfl
    ⟨_, by rw [HL.out]; rfl, by rw [HTS.out]; exact Own.nil _ _ _, put13_mth (HQ.out.back (below_alloc (Below.refl _ _) _) hbs hlt) hbs (Nat.le_refl _) hlt HFR.out⟩
theorem pre2b (w : World) (W : World) (hW : W = (w.alloc (.cells #[] 135)).alloc (.cells #[.int .i64 0, .int .i64 0, .int .i64 0, .int .i64 0, .string ⟨#[]⟩, .int .i64 0, .int .i64 0, .int .i64 0, .int .i64 0, .int .i64 0, .int .i64 0, .string ⟨#[]⟩, .slice none 0 0] 52)) : Below w.heap.size w W ∧ W.heap[w.heap.size + 1]? = some (.cells #[.int .i64 0, .int .i64 0, .int .i64 0, .int .i64 0, .string ⟨#[]⟩, .int .i64 0, .int .i64 0, .int .i64 0, .int .i64 0, .int .i64 0, .int .i64 0, .string ⟨#[]⟩, .slice none 0 0] 52 (0, 0)) := by
  subst hW
  refine ⟨below_alloc (below_alloc (Below.refl _ _) _) _, ?_⟩
  have h := bl_new (w.alloc (.cells #[] 135)) (.cells #[.int .i64 0, .int .i64 0, .int .i64 0, .int .i64 0, .string ⟨#[]⟩, .int .i64 0, .int .i64 0, .int .i64 0, .int .i64 0, .int .i64 0, .int .i64 0, .string ⟨#[]⟩, .slice none 0 0] 52)
  simp only [World.size_alloc] at h
  exact h
set_option maxHeartbeats 2000000 in
set_option maxRecDepth 100000 in
theorem doesT (B g : Nat) (x : Nt) (w : World) (hS : St w B g x) (hx : Ok x) :
    Calls Tryz.prog 146 #[.agg #[], .pointer (some ⟨g, 0, none⟩)] w (snQ B g w (tickM x)) := by
  obtain ⟨W, hW⟩ : ∃ W, W = (w.alloc (.cells #[] 135)).alloc (.cells #[.int .i64 0, .int .i64 0, .int .i64 0, .int .i64 0, .string ⟨#[]⟩, .int .i64 0, .int .i64 0, .int .i64 0, .int .i64 0, .int .i64 0, .int .i64 0, .string ⟨#[]⟩, .slice none 0 0] 52) := ⟨_, rfl⟩
  obtain ⟨hbw, hzw⟩ := pre2b w W hW
  have hfn := Free.new (hS.alloc (.cells #[] 135)) (.cells #[.int .i64 0, .int .i64 0, .int .i64 0, .int .i64 0, .string ⟨#[]⟩, .int .i64 0, .int .i64 0, .int .i64 0, .int .i64 0, .int .i64 0, .int .i64 0, .string ⟨#[]⟩, .slice none 0 0] 52)
  simp only [World.size_alloc] at hfn
  rw [← hW] at hfn
  have hm := tick_m B g x W (hS.below hbw) hx (by have := hS.base; have := hbw.size; omega)
  have hl : (tickM x).l = zLt := by unfold tickM; split <;> rfl
  obtain ⟨r, hr⟩ : ∃ r, r = tickM x := ⟨_, rfl⟩
  rw [← hr] at hm hl ⊢
  have hlt := hS.lt
  have hbs := hS.base
  have hsw := hbw.size
  have HM := Lib.hid hm
  have HL := Lib.hid hl
  have HW := Lib.hid hW
  have HFN := Lib.hid hfn
  have HZW := Lib.hid hzw
  have HBW := Lib.hid hbw
  clear hm hS hl hr hx hW hfn hzw hbw
  go_enter Tryz.func146, Tryz.ntmps146
  go_wp2_with (go_at_call 59; rw [← HW.out]; refine HM.out.mono ?_; rintro e w2 ⟨u2, rfl, hU, hQ⟩; obtain ⟨AU, cU, rfl, -, -⟩ := hU.slice; have hfr := (hQ.frm (by omega)) _ HFN.out; have HFR := Lib.hid hfr.2; have hz := hfr.1.trans HZW.out; have hlz := bl_lt hz; have HQ := Lib.hid hQ; have HU := Lib.hid hU; clear hQ hfr hU; obtain ⟨⟨d0, d1, d2, d3, d4, d5, d6, d7, d8, d9, d10, d11, d12⟩, e0, e1, e2, e3, e4, e5, e6, e7, e8, e9, e10, e11, e12⟩ := blc13 hz)
  exact ret_c Tryz.results146 (w.heap.size + 1) 52 #[.int .i64 0, .int .i64 0, .int .i64 0, .int .i64 0, .string ⟨#[]⟩, .int .i64 r.e, .int .i64 0, .int .i64 0, .int .i64 0, .int .i64 0, .int .i64 0, .string ⟨#[]⟩, .slice AU r.ts.length cU] _ rfl (put13_all hz) Tryz.underlying52 rfl sizeSn rfl
    ⟨_, by rw [HL.out]; rfl, put13_own HU.out (HU.out.ne hz (by decide)), put13_mth (HQ.out.back HBW.out hbs hlt) (by omega) (by omega) hlt HFR.out⟩

/-! shows -/
set_option maxRecDepth 100000 in
theorem shows_L (v : Value) (w : World) : Calls Tryz.prog 54 #[.iface 132 v] w fun e w' => e = .returned (.bool true) ∧ w = w' := by
  have h1 : ∀ (v : Value) (W : World), (Instr.typeAssert (.iface 132 v) 104 132 true).run Tryz.prog W = .ok (.tuple #[v, .bool true]) W := fun v W => by rfl
  have h2 : ∀ (v : Value) (W : World), (Instr.typeAssert (.iface 132 v) 104 135 true).run Tryz.prog W = .ok (.tuple #[.agg #[], .bool false]) W := fun v W => by rfl
  go_enter Tryz.func54, Tryz.ntmps54
  go_wp2
  go_ret
  exact ⟨rfl, rfl⟩
set_option maxRecDepth 100000 in
theorem shows_P (v : Value) (w : World) : Calls Tryz.prog 54 #[.iface 133 v] w fun e w' => e = .returned (.bool false) ∧ w = w' := by
  have h1 : ∀ (v : Value) (W : World), (Instr.typeAssert (.iface 133 v) 104 132 true).run Tryz.prog W = .ok (.tuple #[.nilFunc, .bool false]) W := fun v W => by rfl
  have h2 : ∀ (v : Value) (W : World), (Instr.typeAssert (.iface 133 v) 104 135 true).run Tryz.prog W = .ok (.tuple #[.agg #[], .bool false]) W := fun v W => by rfl
  go_enter Tryz.func54, Tryz.ntmps54
  go_wp2
  go_ret
  exact ⟨rfl, rfl⟩
set_option maxRecDepth 100000 in
theorem shows_T (v : Value) (w : World) : Calls Tryz.prog 54 #[.iface 135 v] w fun e w' => e = .returned (.bool true) ∧ w = w' := by
  have h1 : ∀ (v : Value) (W : World), (Instr.typeAssert (.iface 135 v) 104 132 true).run Tryz.prog W = .ok (.tuple #[.nilFunc, .bool false]) W := fun v W => by rfl
  have h2 : ∀ (v : Value) (W : World), (Instr.typeAssert (.iface 135 v) 104 135 true).run Tryz.prog W = .ok (.tuple #[v, .bool true]) W := fun v W => by rfl
  go_enter Tryz.func54, Tryz.ntmps54
  go_wp2
  go_ret
  exact ⟨rfl, rfl⟩
end Go.Proofs.YthlbmcfliejdiaaGreat
end

section
set_option linter.unusedVariables false
set_option linter.unusedSimpArgs false
namespace Go.Proofs.YthlbmcfliejdiaaGreat
open Go.RowKit

/-- What Do is ahead of its first call: the world, its boxes. -/
theorem preDo (w : World) (x : Nt) (a : Ac) (AW AC AT : Option Addr) (cW cC cT : Nat) (wA : World)
    (hwA : wA = ((((w.alloc (.cells #[.int .i64 x.nodes, .int .i64 x.now, .int .i64 x.next, .slice AW x.way.length cW, .slice AC x.cuts.length cC, .slice AT x.timers.length cT] 26)).alloc (.cells #[.int .i64 a.k, .int .i64 a.a, .int .i64 a.b, .int .i64 a.n, .string a.data] 50)).alloc (.cells #[.int .i64 0, .int .i64 0, .int .i64 0, .slice none 0 0, .slice none 0 0, .slice none 0 0] 26)).alloc (.cells #[.int .i64 0, .int .i64 0, .int .i64 0, .int .i64 0, .string ⟨#[]⟩, .int .i64 0, .int .i64 0, .int .i64 0, .int .i64 0, .int .i64 0, .int .i64 0, .string ⟨#[]⟩, .slice none 0 0] 52))) :
    Below w.heap.size w wA ∧ wA.heap.size = w.heap.size + 4 ∧ wA.heap[w.heap.size]? = some (.cells #[.int .i64 x.nodes, .int .i64 x.now, .int .i64 x.next, .slice AW x.way.length cW, .slice AC x.cuts.length cC, .slice AT x.timers.length cT] 26 (0, 0)) ∧
      wA.heap[w.heap.size + 1]? = some (.cells #[.int .i64 a.k, .int .i64 a.a, .int .i64 a.b, .int .i64 a.n, .string a.data] 50 (0, 0)) ∧
      wA.heap[w.heap.size + 1 + 1]? = some (.cells #[.int .i64 0, .int .i64 0, .int .i64 0, .slice none 0 0, .slice none 0 0, .slice none 0 0] 26 (0, 0)) ∧
      wA.heap[w.heap.size + 1 + 1 + 1]? = some (.cells #[.int .i64 0, .int .i64 0, .int .i64 0, .int .i64 0, .string ⟨#[]⟩, .int .i64 0, .int .i64 0, .int .i64 0, .int .i64 0, .int .i64 0, .int .i64 0, .string ⟨#[]⟩, .slice none 0 0] 52 (0, 0)) := by
  subst hwA
  refine ⟨below_alloc (below_alloc (below_alloc (below_alloc (Below.refl _ _) _) _) _) _, by simp, bl_alloc (bl_alloc (bl_alloc (bl_new _ _) _) _) _, bl_alloc (bl_alloc ?_ _) _, bl_alloc ?_ _, ?_⟩
  · have h := bl_new (w.alloc (.cells #[.int .i64 x.nodes, .int .i64 x.now, .int .i64 x.next, .slice AW x.way.length cW, .slice AC x.cuts.length cC, .slice AT x.timers.length cT] 26)) (.cells #[.int .i64 a.k, .int .i64 a.a, .int .i64 a.b, .int .i64 a.n, .string a.data] 50)
    simp only [World.size_alloc] at h
    exact h
  · have h := bl_new ((w.alloc (.cells #[.int .i64 x.nodes, .int .i64 x.now, .int .i64 x.next, .slice AW x.way.length cW, .slice AC x.cuts.length cC, .slice AT x.timers.length cT] 26)).alloc (.cells #[.int .i64 a.k, .int .i64 a.a, .int .i64 a.b, .int .i64 a.n, .string a.data] 50)) (.cells #[.int .i64 0, .int .i64 0, .int .i64 0, .slice none 0 0, .slice none 0 0, .slice none 0 0] 26)
    simp only [World.size_alloc] at h
    exact h
  · have h := bl_new (((w.alloc (.cells #[.int .i64 x.nodes, .int .i64 x.now, .int .i64 x.next, .slice AW x.way.length cW, .slice AC x.cuts.length cC, .slice AT x.timers.length cT] 26)).alloc (.cells #[.int .i64 a.k, .int .i64 a.a, .int .i64 a.b, .int .i64 a.n, .string a.data] 50)).alloc (.cells #[.int .i64 0, .int .i64 0, .int .i64 0, .slice none 0 0, .slice none 0 0, .slice none 0 0] 26)) (.cells #[.int .i64 0, .int .i64 0, .int .i64 0, .int .i64 0, .string ⟨#[]⟩, .int .i64 0, .int .i64 0, .int .i64 0, .int .i64 0, .int .i64 0, .int .i64 0, .string ⟨#[]⟩, .slice none 0 0] 52)
    simp only [World.size_alloc] at h
    exact h
set_option maxHeartbeats 1000000 in
set_option maxRecDepth 100000 in
theorem Do_form (x : Nt) (a : Ac) (v : Value) (w : World) (hlw : x.way.length ≤ 10000000) (hlc : x.cuts.length ≤ 10000000) (hlt : x.timers.length ≤ 10000000) (hV : NetV w v x) (hx : checkB x = false) :
    Calls Tryz.prog 19 #[v, .agg #[.int .i64 a.k, .int .i64 a.a, .int .i64 a.b, .int .i64 a.n, .string a.data]] w fun e w' => e = .returned (.tuple #[zNetV, .agg #[.int .i64 0, .int .i64 0, .int .i64 0, .int .i64 0, .string ⟨#[]⟩, .int .i64 0, .int .i64 0, .int .i64 0, .int .i64 0, .int .i64 0, .int .i64 0, .string ⟨#[]⟩, .slice none 0 0], .int .i64 2]) ∧ Below w.heap.size w w' := by
  obtain ⟨AW, cW, AC, cC, AT, cT, rfl, hW, hC, hT⟩ := hV
  obtain ⟨wA, hwA⟩ : ∃ wA, wA = ((((w.alloc (.cells #[.int .i64 x.nodes, .int .i64 x.now, .int .i64 x.next, .slice AW x.way.length cW, .slice AC x.cuts.length cC, .slice AT x.timers.length cT] 26)).alloc (.cells #[.int .i64 a.k, .int .i64 a.a, .int .i64 a.b, .int .i64 a.n, .string a.data] 50)).alloc (.cells #[.int .i64 0, .int .i64 0, .int .i64 0, .slice none 0 0, .slice none 0 0, .slice none 0 0] 26)).alloc (.cells #[.int .i64 0, .int .i64 0, .int .i64 0, .int .i64 0, .string ⟨#[]⟩, .int .i64 0, .int .i64 0, .int .i64 0, .int .i64 0, .int .i64 0, .int .i64 0, .string ⟨#[]⟩, .slice none 0 0] 52)) := ⟨_, rfl⟩
  obtain ⟨hb0, hs0, -, -, hzA, hyA⟩ := preDo w x a AW AC AT cW cC cT wA hwA
  have HB0 := Lib.hid hb0
  have HZA := Lib.hid hzA
  have HYA := Lib.hid hyA
  have HX := Lib.hid hx
  have HWA := Lib.hid hwA
  have HW := Lib.hid (hW.below hb0)
  have HC := Lib.hid (hC.below hb0)
  have HT := Lib.hid (hT.below hb0)
  clear hb0 hs0 hzA hyA hx hwA hW hC hT
  go_enter Tryz.func19, Tryz.ntmps19
  go_wp2_with (go_at_call 36; rw [← HWA.out]; refine (changing_bad x AW AC AT cW cC cT wA (by omega) (by omega) (by omega) HW.out HC.out HT.out HX.out).mono ?_; rintro e w1 ⟨rfl, hb1⟩; have hz := bl_below HZA.out hb1; have hy := bl_below HYA.out hb1; obtain ⟨⟨a0, a1, a2, a3, a4, a5⟩, b0, b1, b2, b3, b4, b5⟩ := blc6 hz; obtain ⟨⟨d0, d1, d2, d3, d4, d5, d6, d7, d8, d9, d10, d11, d12⟩, e0, e1, e2, e3, e4, e5, e6, e7, e8, e9, e10, e11, e12⟩ := blc13 hy; have hl1 := bl_lt hz; have hl2 := bl_lt hy)
  exact ret_cct Tryz.results19 (w.heap.size + 1 + 1) (w.heap.size + 1 + 1 + 1) 26 52 #[.int .i64 0, .int .i64 0, .int .i64 0, .slice none 0 0, .slice none 0 0, .slice none 0 0] #[.int .i64 0, .int .i64 0, .int .i64 0, .int .i64 0, .string ⟨#[]⟩, .int .i64 0, .int .i64 0, .int .i64 0, .int .i64 0, .int .i64 0, .int .i64 0, .string ⟨#[]⟩, .slice none 0 0] _ _ rfl (put13_far (bl_all6 hz _ _ _ _ _ _) (by omega)) Tryz.underlying26 rfl sizeNet rfl (put13_all (bl_far6 hy (by omega) _ _ _ _ _ _)) Tryz.underlying52 rfl sizeSn rfl
    ⟨rfl, put13_below (below_set6 (below_trans HB0.out hb1) (by omega) _ _ _ _ _ _) (by omega)⟩

section
variable {T : TypeId} {F : FuncId} {py : Nat → Value}
set_option maxHeartbeats 2000000 in
set_option maxRecDepth 100000 in
theorem Do_err (x : Nt) (a : Ac) (v : Value) (w : World) (hV : NetV w v x) (hx : Ok x) (r : Rs) (he : r.e ≠ 0) (hr : r = errR r.e)
    (hmet : ∀ p W, (method 288 T (py p) "understory/net.does").run Tryz.prog W = .ok (F, py p) W) (eg : ∀ args w, (callFunc F args).run Tryz.prog w = .ok (.enter F args) w)
    (hact : ∀ W, Calls Tryz.prog 53 #[.agg #[.int .i64 a.k, .int .i64 a.a, .int .i64 a.b, .int .i64 a.n, .string a.data]] W fun e W' => e = .returned (.iface T (py W.heap.size)) ∧ W' = W.alloc (.cells #[.int .i64 a.k, .int .i64 a.a, .int .i64 a.b, .int .i64 a.n, .string a.data] 50))
    (hdoes : ∀ B g p W, St W B g x → W.heap[p]? = some (.cells #[.int .i64 a.k, .int .i64 a.a, .int .i64 a.b, .int .i64 a.n, .string a.data] 50 (0, 0)) → Calls Tryz.prog F #[py p, .pointer (some ⟨g, 0, none⟩)] W (snQ B g W r)) :
    Calls Tryz.prog 19 #[v, .agg #[.int .i64 a.k, .int .i64 a.a, .int .i64 a.b, .int .i64 a.n, .string a.data]] w fun e w' => ∃ v' u, e = .returned (.tuple #[v', .agg #[.int .i64 a.k, .int .i64 a.a, .int .i64 a.b, .int .i64 a.n, .string a.data, .int .i64 r.e, .int .i64 x.now, .int .i64 0, .int .i64 0, .int .i64 0, .int .i64 0, .string ⟨#[]⟩, u], .int .i64 0]) ∧ Own w' w.heap.size 86 u ([] : List Tm) ∧ NetO w' w.heap.size v' x ∧ Below w.heap.size w w' := by
  obtain ⟨AW, cW, AC, cC, AT, cT, rfl, hW, hC, hT⟩ := hV
  obtain ⟨wA, hwA⟩ : ∃ wA, wA = ((((w.alloc (.cells #[.int .i64 x.nodes, .int .i64 x.now, .int .i64 x.next, .slice AW x.way.length cW, .slice AC x.cuts.length cC, .slice AT x.timers.length cT] 26)).alloc (.cells #[.int .i64 a.k, .int .i64 a.a, .int .i64 a.b, .int .i64 a.n, .string a.data] 50)).alloc (.cells #[.int .i64 0, .int .i64 0, .int .i64 0, .slice none 0 0, .slice none 0 0, .slice none 0 0] 26)).alloc (.cells #[.int .i64 0, .int .i64 0, .int .i64 0, .int .i64 0, .string ⟨#[]⟩, .int .i64 0, .int .i64 0, .int .i64 0, .int .i64 0, .int .i64 0, .int .i64 0, .string ⟨#[]⟩, .slice none 0 0] 52)) := ⟨_, rfl⟩
  obtain ⟨hb0, hs0, hnA, haA, hzA, hyA⟩ := preDo w x a AW AC AT cW cC cT wA hwA
  have HB0 := Lib.hid hb0
  have HS0 := Lib.hid hs0
  have HNA := Lib.hid hnA
  have HAA := Lib.hid haA
  have HZA := Lib.hid hzA
  have HYA := Lib.hid hyA
  have HX := Lib.hid hx
  have HWA := Lib.hid hwA
  have HACT := Lib.hid hact
  have HDOES := Lib.hid hdoes
  have HW := Lib.hid (hW.below hb0)
  have HC := Lib.hid (hC.below hb0)
  have HT := Lib.hid (hT.below hb0)
  have HE := Lib.hid he
  have HR := Lib.hid hr
  have hlw := hx.way
  have hlc := hx.cuts256
  have hlt := hx.tms
  clear hb0 hs0 hnA haA hzA hyA hx hwA hW hC hT he hr hact hdoes
  go_enter Tryz.func19, Tryz.ntmps19
  have q1 : (r.e != 0) = true := by simpa using HE.out
  go_wp2_with (first
    | (go_at_call 36; rw [← HWA.out]; refine (changing_ok x AW AC AT cW cC cT wA (by omega) (by omega) (by omega) HW.out HC.out HT.out ((ok_iff x).2 HX.out)).mono ?_; rintro e w1 ⟨g, rfl, hS1, hb1⟩; have HWA2 := HWA; clear HWA; have ha1 := bl_below HAA.out hb1; obtain ⟨⟨g0, g1, g2, g3, g4⟩, -⟩ := blc5 ha1; have hla1 := bl_lt ha1)
    | (go_at_call 53; refine (HACT.out _).mono ?_; rintro e w2 ⟨rfl, rfl⟩)
    | (go_at_fn F; refine (HDOES.out wA.heap.size g w1.heap.size _ (hS1.alloc _) (bl_new w1 _)).mono ?_; rintro e w2 ⟨u2, rfl, hU2, hQ⟩; obtain ⟨AU, cU, rfl, -, -⟩ := hU2.slice; clear hU2; have hb2 : Below wA.heap.size wA w2 := (hb1.trans ((below_alloc (Below.refl _ _) _).mono hb1.size)).trans (hQ.toB (by have := hb1.size; simp; omega)); clear hQ ha1 g0 g1 g2 g3 g4 hla1 hb1 hS1; have hn2 := bl_below HNA.out hb2; obtain ⟨⟨n0, n1, n2, n3, n4, n5⟩, -⟩ := blc6 hn2; have hln2 := bl_lt hn2)
    | (go_at_call 36; refine (changing_ok x AW AC AT cW cC cT _ (by omega) (by omega) (by omega) (HW.out.below (below_trans hb2 (below_alloc (Below.refl _ _) _))) (HC.out.below (below_trans hb2 (below_alloc (Below.refl _ _) _))) (HT.out.below (below_trans hb2 (below_alloc (Below.refl _ _) _))) ((ok_iff x).2 HX.out)).mono ?_; rintro e w3 ⟨g', rfl, hS3, hb3⟩; clear n0 n1 n2 n3 n4 n5 hln2 hn2; have hy3 := bl_below (bl_new w2 (.cells #[.int .i64 0, .int .i64 0, .int .i64 0, .int .i64 0, .string ⟨#[]⟩, .int .i64 r.e, .int .i64 0, .int .i64 r.l.id, .int .i64 r.l.fr, .int .i64 r.l.to, .int .i64 r.l.rd, .string r.l.data, .slice AU r.ts.length cU] 52)) hb3; obtain ⟨⟨d0, d1, d2, d3, d4, d5, d6, d7, d8, d9, d10, d11, d12⟩, e0, e1, e2, e3, e4, e5, e6, e7, e8, e9, e10, e11, e12⟩ := blc13 hy3; have hly3 := bl_lt hy3))
  have hb23 : Below wA.heap.size wA w3 := below_trans (below_trans hb2 (below_alloc (Below.refl _ _) _)) hb3
  have hs0 := HS0.out
  have hsb2 := hb2.size
  obtain ⟨W4, hW4⟩ : ∃ W4, W4 = put13 w3 w2.heap.size (.int .i64 0) (.int .i64 0) (.int .i64 0) (.int .i64 0) (.string ⟨#[]⟩) (.int .i64 r.e) (.int .i64 0) (.int .i64 0) (.int .i64 0) (.int .i64 0) (.int .i64 0) (.string ⟨#[]⟩) (.slice none 0 0) := ⟨_, rfl⟩
  have hs4 : W4.heap[w2.heap.size]? = some (.cells #[.int .i64 0, .int .i64 0, .int .i64 0, .int .i64 0, .string ⟨#[]⟩, .int .i64 r.e, .int .i64 0, .int .i64 0, .int .i64 0, .int .i64 0, .int .i64 0, .string ⟨#[]⟩, .slice none 0 0] 52 (0, 0)) := by rw [hW4]; exact put13_all hy3
  have ha4 : W4.heap[w.heap.size + 1]? = some (.cells #[.int .i64 a.k, .int .i64 a.a, .int .i64 a.b, .int .i64 a.n, .string a.data] 50 (0, 0)) := by rw [hW4]; exact put13_far (bl_below HAA.out hb23) (by omega)
  have hz4 : W4.heap[w.heap.size + 1 + 1]? = some (.cells #[.int .i64 0, .int .i64 0, .int .i64 0, .slice none 0 0, .slice none 0 0, .slice none 0 0] 26 (0, 0)) := by rw [hW4]; exact put13_far (bl_below HZA.out hb23) (by omega)
  have hy4 : W4.heap[w.heap.size + 1 + 1 + 1]? = some (.cells #[.int .i64 0, .int .i64 0, .int .i64 0, .int .i64 0, .string ⟨#[]⟩, .int .i64 0, .int .i64 0, .int .i64 0, .int .i64 0, .int .i64 0, .int .i64 0, .string ⟨#[]⟩, .slice none 0 0] 52 (0, 0)) := by rw [hW4]; exact put13_far (bl_below HYA.out hb23) (by omega)
  have hb4 : Below w.heap.size w W4 := by rw [hW4]; exact put13_below (HB0.out.trans (hb23.mono (by omega))) (by omega)
  obtain ⟨AW3, cW3, AC3, cC3, AT3, cT3, hg3, hBg, rW3, rC3, rT3⟩ := hS3.open
  simp only [World.size_alloc] at hBg
  have hg4 : W4.heap[g']? = some (.cells #[.int .i64 x.nodes, .int .i64 x.now, .int .i64 x.next, .slice AW3 x.way.length cW3, .slice AC3 x.cuts.length cC3, .slice AT3 x.timers.length cT3] 109 (0, 0)) := by rw [hW4]; exact put13_far hg3 (by omega)
  have hN4 : Hid (NetO W4 (w2.heap.size + 1) (.agg #[.int .i64 x.nodes, .int .i64 x.now, .int .i64 x.next, .slice AW3 x.way.length cW3, .slice AC3 x.cuts.length cC3, .slice AT3 x.timers.length cT3]) x) := by
    show NetO _ _ _ _
    rw [hW4]
    exact put13_net ⟨AW3, cW3, AC3, cC3, AT3, cT3, rfl, by simpa using rW3, by simpa using rC3, by simpa using rT3⟩ (by omega)
  have hU4 : Hid (Own W4 (w2.heap.size + 1) 86 (.slice none 0 0) ([] : List Tm)) := Own.nil _ _ _
  change Code.wp _ _ _ _ (put13 w3 w2.heap.size (.int .i64 0) (.int .i64 0) (.int .i64 0) (.int .i64 0) (.string ⟨#[]⟩) (.int .i64 r.e) (.int .i64 0) (.int .i64 0) (.int .i64 0) (.int .i64 0) (.int .i64 0) (.string ⟨#[]⟩) (.slice none 0 0))
  rw [← hW4]
  clear hW4 HB0 HNA HAA HZA HYA HX HACT HDOES HW HC HT HE HR HWA2 hS3 hg3 rW3 rC3 rT3 d0 d1 d2 d3 d4 d5 d6 d7 d8 d9 d10 d11 d12 e0 e1 e2 e3 e4 e5 e6 e7 e8 e9 e10 e11 e12 hy3 hly3 hb3 q1 hmet eg hlw hlc hlt hb23 hb2
  generalize w2.heap.size = b2 at *
  obtain ⟨⟨s0, s1, s2, s3, s4, s5, s6, s7, s8, s9, s10, s11, s12⟩, t0, t1, t2, t3, t4, t5, t6, t7, t8, t9, t10, t11, t12⟩ := blc13 hs4
  obtain ⟨⟨m0, m1, m2, m3, m4⟩, -⟩ := blc5 ha4
  obtain ⟨⟨k0, k1, k2, k3, k4, k5⟩, -⟩ := blc6 hg4
  have l1 := bl_lt ha4
  have l2 := bl_lt hz4
  have l3 := bl_lt hy4
  have l4 := bl_lt hs4
  have l5 := bl_lt hg4
  have x1 : ¬ b2 = w.heap.size + 1 := by omega
  have x2 : ¬ w.heap.size + 1 = b2 := by omega
  have x3 : ¬ g' = b2 := by omega
  have x4 : ¬ b2 = g' := by omega
  go_region
  obtain ⟨W5, hW5⟩ : ∃ W5, W5 = ((((((W4.setCell ⟨b2, 0, none⟩ (.int .i64 a.k)).setCell ⟨b2, 1, none⟩ (.int .i64 a.a)).setCell ⟨b2, 2, none⟩ (.int .i64 a.b)).setCell ⟨b2, 3, none⟩ (.int .i64 a.n)).setCell ⟨b2, 4, none⟩ (.string a.data)).setCell ⟨b2, 6, none⟩ (.int .i64 x.now)).drew := ⟨_, rfl⟩
  have hs5 : W5.heap[b2]? = some (.cells #[.int .i64 a.k, .int .i64 a.a, .int .i64 a.b, .int .i64 a.n, .string a.data, .int .i64 r.e, .int .i64 x.now, .int .i64 0, .int .i64 0, .int .i64 0, .int .i64 0, .string ⟨#[]⟩, .slice none 0 0] 52 (0, 0)) := by rw [hW5]; simpa using bl_drew (bl_set (bl_set (bl_set (bl_set (bl_set (bl_set hs4 0 (.int .i64 a.k)) 1 (.int .i64 a.a)) 2 (.int .i64 a.b)) 3 (.int .i64 a.n)) 4 (.string a.data)) 6 (.int .i64 x.now))
  have hfar : ∀ k o, W4.heap[k]? = some o → k ≠ b2 → W5.heap[k]? = some o := fun k o h hne => by rw [hW5]; exact bl_drew (bl_far (bl_far (bl_far (bl_far (bl_far (bl_far h hne _) hne _) hne _) hne _) hne _) hne _)
  have hz5 := hfar _ _ hz4 (by omega)
  have hy5 := hfar _ _ hy4 (by omega)
  have hg5 := hfar _ _ hg4 (by omega)
  have hb5 : Below w.heap.size w W5 := by rw [hW5]; exact ((((((hb4.setCell (p := ⟨b2, 0, none⟩) (by show w.heap.size ≤ b2; omega) _).setCell (p := ⟨b2, 1, none⟩) (by show w.heap.size ≤ b2; omega) _).setCell (p := ⟨b2, 2, none⟩) (by show w.heap.size ≤ b2; omega) _).setCell (p := ⟨b2, 3, none⟩) (by show w.heap.size ≤ b2; omega) _).setCell (p := ⟨b2, 4, none⟩) (by show w.heap.size ≤ b2; omega) _).setCell (p := ⟨b2, 6, none⟩) (by show w.heap.size ≤ b2; omega) _).drew
  have hN5 : Hid (NetO W5 (b2 + 1) (.agg #[.int .i64 x.nodes, .int .i64 x.now, .int .i64 x.next, .slice AW3 x.way.length cW3, .slice AC3 x.cuts.length cC3, .slice AT3 x.timers.length cT3]) x) := by
    show NetO _ _ _ _
    rw [hW5]
    exact ((((((hN4.out.far (p := ⟨b2, 0, none⟩) (by show b2 < b2 + 1; omega) _).far (p := ⟨b2, 1, none⟩) (by show b2 < b2 + 1; omega) _).far (p := ⟨b2, 2, none⟩) (by show b2 < b2 + 1; omega) _).far (p := ⟨b2, 3, none⟩) (by show b2 < b2 + 1; omega) _).far (p := ⟨b2, 4, none⟩) (by show b2 < b2 + 1; omega) _).far (p := ⟨b2, 6, none⟩) (by show b2 < b2 + 1; omega) _).drew
  have hs5s : W5.heap.size = W4.heap.size := by rw [hW5]; simp [World.setCell]
  rw [← hW5]
  clear hW5 hfar hs4 ha4 hz4 hy4 hg4 hb4 hN4 s0 s1 s2 s3 s4 s5 s6 s7 s8 s9 s10 s11 s12 t0 t1 t2 t3 t4 t5 t6 t7 t8 t9 t10 t11 t12 m0 m1 m2 m3 m4 k0 k1 k2 k3 k4 k5 x1 x2 l1
  rw [← hs5s] at l2 l3 l4 l5
  clear hs5s
  obtain ⟨⟨s0, s1, s2, s3, s4, s5, s6, s7, s8, s9, s10, s11, s12⟩, -⟩ := blc13 hs5
  obtain ⟨⟨y0, y1, y2, y3, y4, y5, y6, y7, y8, y9, y10, y11, y12⟩, z0, z1, z2, z3, z4, z5, z6, z7, z8, z9, z10, z11, z12⟩ := blc13 hy5
  obtain ⟨⟨k0, k1, k2, k3, k4, k5⟩, -⟩ := blc6 hg5
  obtain ⟨⟨m0, m1, m2, m3, m4, m5⟩, n0, n1, n2, n3, n4, n5⟩ := blc6 hz5
  have x1 : ¬ b2 = w.heap.size + 1 + 1 := by omega
  have x2 : ¬ w.heap.size + 1 + 1 = b2 := by omega
  have x5 : ¬ g' = w.heap.size + 1 + 1 := by omega
  have x6 : ¬ w.heap.size + 1 + 1 = g' := by omega
  have x7 : ¬ b2 = w.heap.size + 1 + 1 + 1 := by omega
  have x8 : ¬ w.heap.size + 1 + 1 + 1 = b2 := by omega
  have x9 : ¬ g' = w.heap.size + 1 + 1 + 1 := by omega
  have x10 : ¬ w.heap.size + 1 + 1 + 1 = g' := by omega
  go_wp2
  go_region
  go_wp2
  exact ret_cct Tryz.results19 (w.heap.size + 1 + 1) (w.heap.size + 1 + 1 + 1) 26 52 #[.int .i64 x.nodes, .int .i64 x.now, .int .i64 x.next, .slice AW3 x.way.length cW3, .slice AC3 x.cuts.length cC3, .slice AT3 x.timers.length cT3] #[.int .i64 a.k, .int .i64 a.a, .int .i64 a.b, .int .i64 a.n, .string a.data, .int .i64 r.e, .int .i64 x.now, .int .i64 0, .int .i64 0, .int .i64 0, .int .i64 0, .string ⟨#[]⟩, .slice none 0 0] _ _ rfl
    (bl_drew (put13_far (bl_all6 hz5 _ _ _ _ _ _) (by omega))) Tryz.underlying26 rfl sizeNet rfl (bl_drew (put13_all (bl_far6 hy5 (by omega) _ _ _ _ _ _))) Tryz.underlying52 rfl sizeSn rfl
    ⟨_, _, rfl, Own.nil _ _ _, NetO.weaken (B := b2 + 1) ((put13_net (hN5.out.far6 (by omega) _ _ _ _ _ _) (by omega)).drew) (by omega), (put13_below (below_set6 hb5 (by omega) _ _ _ _ _ _) (by omega)).drew⟩
end
end Go.Proofs.YthlbmcfliejdiaaGreat
end

section
set_option linter.unusedVariables false
set_option linter.unusedSimpArgs false
namespace Go.Proofs.YthlbmcfliejdiaaGreat
open Go.RowKit

section
variable {T : TypeId} {F : FuncId} {py : Nat → Value}

set_option maxHeartbeats 4000000 in
set_option maxRecDepth 100000 in
theorem Do_show (x : Nt) (a : Ac) (v : Value) (w : World) (hV : NetV w v x) (hx : Ok x) (r : Rs) (he : r.e = 0)
    (hmet : ∀ p W, (method 288 T (py p) "understory/net.does").run Tryz.prog W = .ok (F, py p) W) (eg : ∀ args w, (callFunc F args).run Tryz.prog w = .ok (.enter F args) w)
    (hact : ∀ W, Calls Tryz.prog 53 #[.agg #[.int .i64 a.k, .int .i64 a.a, .int .i64 a.b, .int .i64 a.n, .string a.data]] W fun e W' => e = .returned (.iface T (py W.heap.size)) ∧ W' = W.alloc (.cells #[.int .i64 a.k, .int .i64 a.a, .int .i64 a.b, .int .i64 a.n, .string a.data] 50))
    (hsh : ∀ p W, Calls Tryz.prog 54 #[.iface T (py p)] W fun e W' => e = .returned (.bool true) ∧ W = W')
    (hdoes : ∀ B g p W, St W B g x → W.heap[p]? = some (.cells #[.int .i64 a.k, .int .i64 a.a, .int .i64 a.b, .int .i64 a.n, .string a.data] 50 (0, 0)) → Calls Tryz.prog F #[py p, .pointer (some ⟨g, 0, none⟩)] W (snQ B g W r)) :
    Calls Tryz.prog 19 #[v, .agg #[.int .i64 a.k, .int .i64 a.a, .int .i64 a.b, .int .i64 a.n, .string a.data]] w fun e w' => ∃ v' u, e = .returned (.tuple #[v', .agg #[.int .i64 a.k, .int .i64 a.a, .int .i64 a.b, .int .i64 a.n, .string a.data, .int .i64 r.e, .int .i64 r.x.now, .int .i64 r.l.id, .int .i64 r.l.fr, .int .i64 r.l.to, .int .i64 r.l.rd, .string r.l.data, u], .int .i64 0]) ∧ Own w' w.heap.size 86 u r.ts ∧ NetO w' w.heap.size v' r.x ∧ Below w.heap.size w w' := by
  obtain ⟨AW, cW, AC, cC, AT, cT, rfl, hW, hC, hT⟩ := hV
  obtain ⟨wA, hwA⟩ : ∃ wA, wA = ((((w.alloc (.cells #[.int .i64 x.nodes, .int .i64 x.now, .int .i64 x.next, .slice AW x.way.length cW, .slice AC x.cuts.length cC, .slice AT x.timers.length cT] 26)).alloc (.cells #[.int .i64 a.k, .int .i64 a.a, .int .i64 a.b, .int .i64 a.n, .string a.data] 50)).alloc (.cells #[.int .i64 0, .int .i64 0, .int .i64 0, .slice none 0 0, .slice none 0 0, .slice none 0 0] 26)).alloc (.cells #[.int .i64 0, .int .i64 0, .int .i64 0, .int .i64 0, .string ⟨#[]⟩, .int .i64 0, .int .i64 0, .int .i64 0, .int .i64 0, .int .i64 0, .int .i64 0, .string ⟨#[]⟩, .slice none 0 0] 52)) := ⟨_, rfl⟩
  obtain ⟨hb0, hs0, hnA, haA, hzA, hyA⟩ := preDo w x a AW AC AT cW cC cT wA hwA
  have HB0 := Lib.hid hb0
  have HS0 := Lib.hid hs0
  have HNA := Lib.hid hnA
  have HAA := Lib.hid haA
  have HZA := Lib.hid hzA
  have HYA := Lib.hid hyA
  have HX := Lib.hid hx
  have HWA := Lib.hid hwA
  have HACT := Lib.hid hact
  have HDOES := Lib.hid hdoes
  have HW := Lib.hid (hW.below hb0)
  have HC := Lib.hid (hC.below hb0)
  have HT := Lib.hid (hT.below hb0)
  have HE := Lib.hid he
  have HSH := Lib.hid hsh
  have hlw := hx.way
  have hlc := hx.cuts256
  have hlt := hx.tms
  clear hb0 hs0 hnA haA hzA hyA hx hwA hW hC hT he hact hdoes hsh
  go_enter Tryz.func19, Tryz.ntmps19
  have q1 : (r.e != 0) = false := by simpa using HE.out
  go_wp2_with (first
    | (go_at_call 36; rw [← HWA.out]; refine (changing_ok x AW AC AT cW cC cT wA (by omega) (by omega) (by omega) HW.out HC.out HT.out ((ok_iff x).2 HX.out)).mono ?_; rintro e w1 ⟨g, rfl, hS1, hb1⟩; have ha1 := bl_below HAA.out hb1; obtain ⟨⟨g0, g1, g2, g3, g4⟩, -⟩ := blc5 ha1; have hla1 := bl_lt ha1)
    | (go_at_call 53; refine (HACT.out _).mono ?_; rintro e w2 ⟨rfl, rfl⟩)
    | (go_at_fn F; refine (HDOES.out wA.heap.size g w1.heap.size _ (hS1.alloc _) (bl_new w1 _)).mono ?_; rintro e w2 ⟨u2, rfl, hU2, hQ⟩; obtain ⟨AU, cU, rfl, -, -⟩ := hU2.slice; have hb2 : Below wA.heap.size wA w2 := (hb1.trans ((below_alloc (Below.refl _ _) _).mono hb1.size)).trans (hQ.toB (by have := hb1.size; simp; omega)); have HU2 := Lib.hid hU2; have hgl1 := hS1.lt; have HQ := Lib.hid hQ; clear hU2 hQ ha1 g0 g1 g2 g3 g4 hla1 hb1 hS1)
    | (go_at_call 54; refine (HSH.out _ _).mono ?_; rintro e w3 ⟨rfl, rfl⟩))
  obtain ⟨hSr, -⟩ : St w2 wA.heap.size g r.x ∧ True := by
    rcases HQ.out with ⟨h, _⟩ | ⟨_, h, _⟩
    · exact absurd HE.out h
    · exact ⟨h, trivial⟩
  have hs0 := HS0.out
  have hsb2 := hb2.size
  have hgb := hSr.lt
  have hfree : Free (w2.alloc (.cells #[.int .i64 0, .int .i64 0, .int .i64 0, .int .i64 0, .string ⟨#[]⟩, .int .i64 r.e, .int .i64 0, .int .i64 r.l.id, .int .i64 r.l.fr, .int .i64 r.l.to, .int .i64 r.l.rd, .string r.l.data, .slice AU r.ts.length cU] 52)) g w2.heap.size := Free.new hSr _
  have hSA : St (w2.alloc (.cells #[.int .i64 0, .int .i64 0, .int .i64 0, .int .i64 0, .string ⟨#[]⟩, .int .i64 r.e, .int .i64 0, .int .i64 r.l.id, .int .i64 r.l.fr, .int .i64 r.l.to, .int .i64 r.l.rd, .string r.l.data, .slice AU r.ts.length cU] 52)) wA.heap.size g r.x := hSr.alloc _
  obtain ⟨W4, hW4⟩ : ∃ W4, W4 = w2.alloc (.cells #[.int .i64 0, .int .i64 0, .int .i64 0, .int .i64 0, .string ⟨#[]⟩, .int .i64 r.e, .int .i64 0, .int .i64 r.l.id, .int .i64 r.l.fr, .int .i64 r.l.to, .int .i64 r.l.rd, .string r.l.data, .slice AU r.ts.length cU] 52) := ⟨_, rfl⟩
  have hs4 : W4.heap[w2.heap.size]? = some (.cells #[.int .i64 0, .int .i64 0, .int .i64 0, .int .i64 0, .string ⟨#[]⟩, .int .i64 r.e, .int .i64 0, .int .i64 r.l.id, .int .i64 r.l.fr, .int .i64 r.l.to, .int .i64 r.l.rd, .string r.l.data, .slice AU r.ts.length cU] 52 (0, 0)) := by rw [hW4]; exact bl_new _ _
  have hbA : Below wA.heap.size wA W4 := by rw [hW4]; exact below_trans hb2 (below_alloc (Below.refl _ _) _)
  have ha4 := bl_below HAA.out hbA
  have hz4 := bl_below HZA.out hbA
  have hy4 := bl_below HYA.out hbA
  have hb4 : Below w.heap.size w W4 := HB0.out.trans (hbA.mono (by omega))
  have hf4 : Free W4 g w2.heap.size := by rw [hW4]; exact Free.new hSr _
  have hS4 : St W4 wA.heap.size g r.x := by rw [hW4]; exact hSr.alloc _
  have hU4 : Hid (Own W4 wA.heap.size 86 (.slice AU r.ts.length cU) r.ts) := by show Own _ _ _ _ _; rw [hW4]; exact HU2.out.alloc _
  have hUn : ∀ k, (Value.slice AU r.ts.length cU).ownBlock = some k → k < w2.heap.size := fun k h => (HU2.out.lt k h).2
  rw [← hW4]
  clear hW4 HB0 HNA HAA HZA HYA HX HACT HDOES HSH HW HC HT HE HWA q1 hmet eg hlw hlc hlt hb2 hbA HQ HU2 hSr hfree hSA
  generalize w2.heap.size = b2 at *
  obtain ⟨AW3, cW3, AC3, cC3, AT3, cT3, hg4, hBg, -, -, -⟩ := hS4.open
  have HS4 := Lib.hid hS4
  have HF4 := Lib.hid hf4
  have HUN := Lib.hid hUn
  clear hS4 hf4 hUn
  obtain ⟨⟨s0, s1, s2, s3, s4, s5, s6, s7, s8, s9, s10, s11, s12⟩, t0, t1, t2, t3, t4, t5, t6, t7, t8, t9, t10, t11, t12⟩ := blc13 hs4
  obtain ⟨⟨m0, m1, m2, m3, m4⟩, -⟩ := blc5 ha4
  obtain ⟨⟨k0, k1, k2, k3, k4, k5⟩, -⟩ := blc6 hg4
  have l1 := bl_lt ha4
  have l2 := bl_lt hz4
  have l3 := bl_lt hy4
  have l4 := bl_lt hs4
  have l5 := bl_lt hg4
  have x1 : ¬ b2 = w.heap.size + 1 := by omega
  have x2 : ¬ w.heap.size + 1 = b2 := by omega
  have x3 : ¬ g = b2 := by omega
  have x4 : ¬ b2 = g := by omega
  go_region
  obtain ⟨W5, hW5⟩ : ∃ W5, W5 = ((((((W4.setCell ⟨b2, 0, none⟩ (.int .i64 a.k)).setCell ⟨b2, 1, none⟩ (.int .i64 a.a)).setCell ⟨b2, 2, none⟩ (.int .i64 a.b)).setCell ⟨b2, 3, none⟩ (.int .i64 a.n)).setCell ⟨b2, 4, none⟩ (.string a.data)).setCell ⟨b2, 6, none⟩ (.int .i64 r.x.now)).drew := ⟨_, rfl⟩
  have hs5 : W5.heap[b2]? = some (.cells #[.int .i64 a.k, .int .i64 a.a, .int .i64 a.b, .int .i64 a.n, .string a.data, .int .i64 r.e, .int .i64 r.x.now, .int .i64 r.l.id, .int .i64 r.l.fr, .int .i64 r.l.to, .int .i64 r.l.rd, .string r.l.data, .slice AU r.ts.length cU] 52 (0, 0)) := by rw [hW5]; simpa using bl_drew (bl_set (bl_set (bl_set (bl_set (bl_set (bl_set hs4 0 (.int .i64 a.k)) 1 (.int .i64 a.a)) 2 (.int .i64 a.b)) 3 (.int .i64 a.n)) 4 (.string a.data)) 6 (.int .i64 r.x.now))
  have hfar : ∀ k o, W4.heap[k]? = some o → k ≠ b2 → W5.heap[k]? = some o := fun k o h hne => by rw [hW5]; exact bl_drew (bl_far (bl_far (bl_far (bl_far (bl_far (bl_far h hne _) hne _) hne _) hne _) hne _) hne _)
  have hz5 := hfar _ _ hz4 (by omega)
  have hy5 := hfar _ _ hy4 (by omega)
  have hg5 := hfar _ _ hg4 (by omega)
  have hb5 : Below w.heap.size w W5 := by rw [hW5]; exact ((((((hb4.setCell (p := ⟨b2, 0, none⟩) (by show w.heap.size ≤ b2; omega) _).setCell (p := ⟨b2, 1, none⟩) (by show w.heap.size ≤ b2; omega) _).setCell (p := ⟨b2, 2, none⟩) (by show w.heap.size ≤ b2; omega) _).setCell (p := ⟨b2, 3, none⟩) (by show w.heap.size ≤ b2; omega) _).setCell (p := ⟨b2, 4, none⟩) (by show w.heap.size ≤ b2; omega) _).setCell (p := ⟨b2, 6, none⟩) (by show w.heap.size ≤ b2; omega) _).drew
  have hS5 : St W5 wA.heap.size g r.x := by
    rw [hW5]
    have step : ∀ (W : World) (j : Nat) (u : Value), St W wA.heap.size g r.x ∧ Free W g b2 → St (W.setCell ⟨b2, j, none⟩ u) wA.heap.size g r.x ∧ Free (W.setCell ⟨b2, j, none⟩ u) g b2 := fun W j u h => ⟨h.1.free h.2 j u, h.2.set h.2.2.1 j u⟩
    exact (step _ _ _ (step _ _ _ (step _ _ _ (step _ _ _ (step _ _ _ (step _ _ _ ⟨HS4.out, HF4.out⟩)))))).1.drew
  have hU5 : Hid (Own W5 wA.heap.size 86 (.slice AU r.ts.length cU) r.ts) := by
    show Own _ _ _ _ _
    rw [hW5]
    refine Own.drew ?_
    repeat (refine Own.setCell ?_ (fun h => by have := HUN.out _ h; simp at this) _)
    exact hU4.out
  have hN5 : Hid (NetO W5 wA.heap.size (.agg #[.int .i64 r.x.nodes, .int .i64 r.x.now, .int .i64 r.x.next, .slice AW3 r.x.way.length cW3, .slice AC3 r.x.cuts.length cC3, .slice AT3 r.x.timers.length cT3]) r.x) := by
    obtain ⟨AW6, cW6, AC6, cC6, AT6, cT6, hg6, -, rW, rC, rT⟩ := hS5.open
    rw [hg5] at hg6
    injection hg6 with hg6
    injection hg6 with hg6
    simp only [Array.mk.injEq, List.cons.injEq, Value.slice.injEq, true_and, and_true] at hg6
    obtain ⟨⟨rfl, rfl⟩, ⟨rfl, rfl⟩, rfl, rfl⟩ := hg6
    exact ⟨_, _, _, _, _, _, rfl, rW, rC, rT⟩
  have hs5s : W5.heap.size = W4.heap.size := by rw [hW5]; simp [World.setCell]
  rw [← hW5]
  clear hW5 hfar hs4 ha4 hz4 hy4 hg4 hb4 hU4 hS5 s0 s1 s2 s3 s4 s5 s6 s7 s8 s9 s10 s11 s12 t0 t1 t2 t3 t4 t5 t6 t7 t8 t9 t10 t11 t12 m0 m1 m2 m3 m4 k0 k1 k2 k3 k4 k5 x1 x2 l1
  rw [← hs5s] at l2 l3 l4 l5
  clear hs5s
  obtain ⟨⟨s0, s1, s2, s3, s4, s5, s6, s7, s8, s9, s10, s11, s12⟩, -⟩ := blc13 hs5
  obtain ⟨⟨y0, y1, y2, y3, y4, y5, y6, y7, y8, y9, y10, y11, y12⟩, z0, z1, z2, z3, z4, z5, z6, z7, z8, z9, z10, z11, z12⟩ := blc13 hy5
  obtain ⟨⟨k0, k1, k2, k3, k4, k5⟩, -⟩ := blc6 hg5
  obtain ⟨⟨m0, m1, m2, m3, m4, m5⟩, n0, n1, n2, n3, n4, n5⟩ := blc6 hz5
  have x1 : ¬ b2 = w.heap.size + 1 + 1 := by omega
  have x2 : ¬ w.heap.size + 1 + 1 = b2 := by omega
  have x5 : ¬ g = w.heap.size + 1 + 1 := by omega
  have x6 : ¬ w.heap.size + 1 + 1 = g := by omega
  have x7 : ¬ b2 = w.heap.size + 1 + 1 + 1 := by omega
  have x8 : ¬ w.heap.size + 1 + 1 + 1 = b2 := by omega
  have x9 : ¬ g = w.heap.size + 1 + 1 + 1 := by omega
  have x10 : ¬ w.heap.size + 1 + 1 + 1 = g := by omega
  go_wp2
  go_region
  go_wp2
  refine ret_cct Tryz.results19 (w.heap.size + 1 + 1) (w.heap.size + 1 + 1 + 1) 26 52 #[.int .i64 r.x.nodes, .int .i64 r.x.now, .int .i64 r.x.next, .slice AW3 r.x.way.length cW3, .slice AC3 r.x.cuts.length cC3, .slice AT3 r.x.timers.length cT3] #[.int .i64 a.k, .int .i64 a.a, .int .i64 a.b, .int .i64 a.n, .string a.data, .int .i64 r.e, .int .i64 r.x.now, .int .i64 r.l.id, .int .i64 r.l.fr, .int .i64 r.l.to, .int .i64 r.l.rd, .string r.l.data, .slice AU r.ts.length cU] _ _ rfl
    (bl_drew (put13_far (bl_all6 hz5 _ _ _ _ _ _) (by omega))) Tryz.underlying26 rfl sizeNet rfl (bl_drew (put13_all (bl_far6 hy5 (by omega) _ _ _ _ _ _))) Tryz.underlying52 rfl sizeSn rfl
    ⟨_, _, rfl, ?hu, NetO.weaken (B := wA.heap.size) ((put13_net (hN5.out.far6 (by omega) _ _ _ _ _ _) (by omega)).drew) (by omega), (put13_below (below_set6 hb5 (by omega) _ _ _ _ _ _) (by omega)).drew⟩
  have hfr : ∀ (W : World) (p : Addr) (u : Value), p.block < wA.heap.size → Own W wA.heap.size 86 (.slice AU r.ts.length cU) r.ts → Own (W.setCell p u) wA.heap.size 86 (.slice AU r.ts.length cU) r.ts := fun W p u hp h => h.far hp u
  refine Own.weaken (B := wA.heap.size) (Own.drew ?_) (by omega)
  repeat (refine hfr _ _ _ (by simp only []; omega) ?_)
  exact hU5.out

set_option maxHeartbeats 4000000 in
set_option maxRecDepth 100000 in
theorem Do_plain (x : Nt) (a : Ac) (v : Value) (w : World) (hV : NetV w v x) (hx : Ok x) (r : Rs) (he : r.e = 0) (hl : r.l = zLt) (hts : r.ts = [])
    (hmet : ∀ p W, (method 288 T (py p) "understory/net.does").run Tryz.prog W = .ok (F, py p) W) (eg : ∀ args w, (callFunc F args).run Tryz.prog w = .ok (.enter F args) w)
    (hact : ∀ W, Calls Tryz.prog 53 #[.agg #[.int .i64 a.k, .int .i64 a.a, .int .i64 a.b, .int .i64 a.n, .string a.data]] W fun e W' => e = .returned (.iface T (py W.heap.size)) ∧ W' = W.alloc (.cells #[.int .i64 a.k, .int .i64 a.a, .int .i64 a.b, .int .i64 a.n, .string a.data] 50))
    (hsh : ∀ p W, Calls Tryz.prog 54 #[.iface T (py p)] W fun e W' => e = .returned (.bool false) ∧ W = W')
    (hdoes : ∀ B g p W, St W B g x → W.heap[p]? = some (.cells #[.int .i64 a.k, .int .i64 a.a, .int .i64 a.b, .int .i64 a.n, .string a.data] 50 (0, 0)) → Calls Tryz.prog F #[py p, .pointer (some ⟨g, 0, none⟩)] W (snQ B g W r)) :
    Calls Tryz.prog 19 #[v, .agg #[.int .i64 a.k, .int .i64 a.a, .int .i64 a.b, .int .i64 a.n, .string a.data]] w fun e w' => ∃ v' u, e = .returned (.tuple #[v', .agg #[.int .i64 a.k, .int .i64 a.a, .int .i64 a.b, .int .i64 a.n, .string a.data, .int .i64 r.e, .int .i64 r.x.now, .int .i64 r.l.id, .int .i64 r.l.fr, .int .i64 r.l.to, .int .i64 r.l.rd, .string r.l.data, u], .int .i64 0]) ∧ Own w' w.heap.size 86 u r.ts ∧ NetO w' w.heap.size v' r.x ∧ Below w.heap.size w w' := by
  obtain ⟨AW, cW, AC, cC, AT, cT, rfl, hW, hC, hT⟩ := hV
  obtain ⟨wA, hwA⟩ : ∃ wA, wA = ((((w.alloc (.cells #[.int .i64 x.nodes, .int .i64 x.now, .int .i64 x.next, .slice AW x.way.length cW, .slice AC x.cuts.length cC, .slice AT x.timers.length cT] 26)).alloc (.cells #[.int .i64 a.k, .int .i64 a.a, .int .i64 a.b, .int .i64 a.n, .string a.data] 50)).alloc (.cells #[.int .i64 0, .int .i64 0, .int .i64 0, .slice none 0 0, .slice none 0 0, .slice none 0 0] 26)).alloc (.cells #[.int .i64 0, .int .i64 0, .int .i64 0, .int .i64 0, .string ⟨#[]⟩, .int .i64 0, .int .i64 0, .int .i64 0, .int .i64 0, .int .i64 0, .int .i64 0, .string ⟨#[]⟩, .slice none 0 0] 52)) := ⟨_, rfl⟩
  obtain ⟨hb0, hs0, hnA, haA, hzA, hyA⟩ := preDo w x a AW AC AT cW cC cT wA hwA
  have HB0 := Lib.hid hb0
  have HS0 := Lib.hid hs0
  have HNA := Lib.hid hnA
  have HAA := Lib.hid haA
  have HZA := Lib.hid hzA
  have HYA := Lib.hid hyA
  have HX := Lib.hid hx
  have HWA := Lib.hid hwA
  have HACT := Lib.hid hact
  have HDOES := Lib.hid hdoes
  have HW := Lib.hid (hW.below hb0)
  have HC := Lib.hid (hC.below hb0)
  have HT := Lib.hid (hT.below hb0)
  have HE := Lib.hid he
  have HSH := Lib.hid hsh
  have HL := Lib.hid hl
  have HTS := Lib.hid hts
  have hlw := hx.way
  have hlc := hx.cuts256
  have hlt := hx.tms
  clear hb0 hs0 hnA haA hzA hyA hx hwA hW hC hT he hact hdoes hsh hl hts
  go_enter Tryz.func19, Tryz.ntmps19
  have q1 : (r.e != 0) = false := by simpa using HE.out
  go_wp2_with (first
    | (go_at_call 36; rw [← HWA.out]; refine (changing_ok x AW AC AT cW cC cT wA (by omega) (by omega) (by omega) HW.out HC.out HT.out ((ok_iff x).2 HX.out)).mono ?_; rintro e w1 ⟨g, rfl, hS1, hb1⟩; have ha1 := bl_below HAA.out hb1; obtain ⟨⟨g0, g1, g2, g3, g4⟩, -⟩ := blc5 ha1; have hla1 := bl_lt ha1)
    | (go_at_call 53; refine (HACT.out _).mono ?_; rintro e w2 ⟨rfl, rfl⟩)
    | (go_at_fn F; refine (HDOES.out wA.heap.size g w1.heap.size _ (hS1.alloc _) (bl_new w1 _)).mono ?_; rintro e w2 ⟨u2, rfl, hU2, hQ⟩; obtain ⟨AU, cU, rfl, -, -⟩ := hU2.slice; have hb2 : Below wA.heap.size wA w2 := (hb1.trans ((below_alloc (Below.refl _ _) _).mono hb1.size)).trans (hQ.toB (by have := hb1.size; simp; omega)); have HU2 := Lib.hid hU2; have hgl1 := hS1.lt; have HQ := Lib.hid hQ; clear hU2 hQ ha1 g0 g1 g2 g3 g4 hla1 hb1 hS1)
    | (go_at_call 54; refine (HSH.out _ _).mono ?_; rintro e w3 ⟨rfl, rfl⟩))
  obtain ⟨hSr, -⟩ : St w2 wA.heap.size g r.x ∧ True := by
    rcases HQ.out with ⟨h, _⟩ | ⟨_, h, _⟩
    · exact absurd HE.out h
    · exact ⟨h, trivial⟩
  have hs0 := HS0.out
  have hsb2 := hb2.size
  have hgb := hSr.lt
  have hfree : Free (w2.alloc (.cells #[.int .i64 0, .int .i64 0, .int .i64 0, .int .i64 0, .string ⟨#[]⟩, .int .i64 r.e, .int .i64 0, .int .i64 r.l.id, .int .i64 r.l.fr, .int .i64 r.l.to, .int .i64 r.l.rd, .string r.l.data, .slice AU r.ts.length cU] 52)) g w2.heap.size := Free.new hSr _
  have hSA : St (w2.alloc (.cells #[.int .i64 0, .int .i64 0, .int .i64 0, .int .i64 0, .string ⟨#[]⟩, .int .i64 r.e, .int .i64 0, .int .i64 r.l.id, .int .i64 r.l.fr, .int .i64 r.l.to, .int .i64 r.l.rd, .string r.l.data, .slice AU r.ts.length cU] 52)) wA.heap.size g r.x := hSr.alloc _
  obtain ⟨W4, hW4⟩ : ∃ W4, W4 = w2.alloc (.cells #[.int .i64 0, .int .i64 0, .int .i64 0, .int .i64 0, .string ⟨#[]⟩, .int .i64 r.e, .int .i64 0, .int .i64 0, .int .i64 0, .int .i64 0, .int .i64 0, .string ⟨#[]⟩, .slice none 0 0] 52) := ⟨_, rfl⟩
  have hs4 : W4.heap[w2.heap.size]? = some (.cells #[.int .i64 0, .int .i64 0, .int .i64 0, .int .i64 0, .string ⟨#[]⟩, .int .i64 r.e, .int .i64 0, .int .i64 0, .int .i64 0, .int .i64 0, .int .i64 0, .string ⟨#[]⟩, .slice none 0 0] 52 (0, 0)) := by rw [hW4]; exact bl_new _ _
  have hbA : Below wA.heap.size wA W4 := by rw [hW4]; exact below_trans hb2 (below_alloc (Below.refl _ _) _)
  have ha4 := bl_below HAA.out hbA
  have hz4 := bl_below HZA.out hbA
  have hy4 := bl_below HYA.out hbA
  have hb4 : Below w.heap.size w W4 := HB0.out.trans (hbA.mono (by omega))
  have hf4 : Free W4 g w2.heap.size := by rw [hW4]; exact Free.new hSr _
  have hS4 : St W4 wA.heap.size g r.x := by rw [hW4]; exact hSr.alloc _
  have hU4 : Hid (Own W4 wA.heap.size 86 (.slice AU r.ts.length cU) r.ts) := by show Own _ _ _ _ _; rw [hW4]; exact HU2.out.alloc _
  have hUn : ∀ k, (Value.slice AU r.ts.length cU).ownBlock = some k → k < w2.heap.size := fun k h => (HU2.out.lt k h).2
  rw [← hW4]
  clear hW4 HB0 HNA HAA HZA HYA HX HACT HDOES HSH HW HC HT HE HWA q1 hmet eg hlw hlc hlt hb2 hbA HQ HU2 hSr hfree hSA
  generalize w2.heap.size = b2 at *
  obtain ⟨AW3, cW3, AC3, cC3, AT3, cT3, hg4, hBg, -, -, -⟩ := hS4.open
  have HS4 := Lib.hid hS4
  have HF4 := Lib.hid hf4
  have HUN := Lib.hid hUn
  clear hS4 hf4 hUn
  obtain ⟨⟨s0, s1, s2, s3, s4, s5, s6, s7, s8, s9, s10, s11, s12⟩, t0, t1, t2, t3, t4, t5, t6, t7, t8, t9, t10, t11, t12⟩ := blc13 hs4
  obtain ⟨⟨m0, m1, m2, m3, m4⟩, -⟩ := blc5 ha4
  obtain ⟨⟨k0, k1, k2, k3, k4, k5⟩, -⟩ := blc6 hg4
  have l1 := bl_lt ha4
  have l2 := bl_lt hz4
  have l3 := bl_lt hy4
  have l4 := bl_lt hs4
  have l5 := bl_lt hg4
  have x1 : ¬ b2 = w.heap.size + 1 := by omega
  have x2 : ¬ w.heap.size + 1 = b2 := by omega
  have x3 : ¬ g = b2 := by omega
  have x4 : ¬ b2 = g := by omega
  go_region
  obtain ⟨W5, hW5⟩ : ∃ W5, W5 = ((((((W4.setCell ⟨b2, 0, none⟩ (.int .i64 a.k)).setCell ⟨b2, 1, none⟩ (.int .i64 a.a)).setCell ⟨b2, 2, none⟩ (.int .i64 a.b)).setCell ⟨b2, 3, none⟩ (.int .i64 a.n)).setCell ⟨b2, 4, none⟩ (.string a.data)).setCell ⟨b2, 6, none⟩ (.int .i64 r.x.now)).drew := ⟨_, rfl⟩
  have hs5 : W5.heap[b2]? = some (.cells #[.int .i64 a.k, .int .i64 a.a, .int .i64 a.b, .int .i64 a.n, .string a.data, .int .i64 r.e, .int .i64 r.x.now, .int .i64 0, .int .i64 0, .int .i64 0, .int .i64 0, .string ⟨#[]⟩, .slice none 0 0] 52 (0, 0)) := by rw [hW5]; simpa using bl_drew (bl_set (bl_set (bl_set (bl_set (bl_set (bl_set hs4 0 (.int .i64 a.k)) 1 (.int .i64 a.a)) 2 (.int .i64 a.b)) 3 (.int .i64 a.n)) 4 (.string a.data)) 6 (.int .i64 r.x.now))
  have hfar : ∀ k o, W4.heap[k]? = some o → k ≠ b2 → W5.heap[k]? = some o := fun k o h hne => by rw [hW5]; exact bl_drew (bl_far (bl_far (bl_far (bl_far (bl_far (bl_far h hne _) hne _) hne _) hne _) hne _) hne _)
  have hz5 := hfar _ _ hz4 (by omega)
  have hy5 := hfar _ _ hy4 (by omega)
  have hg5 := hfar _ _ hg4 (by omega)
  have hb5 : Below w.heap.size w W5 := by rw [hW5]; exact ((((((hb4.setCell (p := ⟨b2, 0, none⟩) (by show w.heap.size ≤ b2; omega) _).setCell (p := ⟨b2, 1, none⟩) (by show w.heap.size ≤ b2; omega) _).setCell (p := ⟨b2, 2, none⟩) (by show w.heap.size ≤ b2; omega) _).setCell (p := ⟨b2, 3, none⟩) (by show w.heap.size ≤ b2; omega) _).setCell (p := ⟨b2, 4, none⟩) (by show w.heap.size ≤ b2; omega) _).setCell (p := ⟨b2, 6, none⟩) (by show w.heap.size ≤ b2; omega) _).drew
  have hS5 : St W5 wA.heap.size g r.x := by
    rw [hW5]
    have step : ∀ (W : World) (j : Nat) (u : Value), St W wA.heap.size g r.x ∧ Free W g b2 → St (W.setCell ⟨b2, j, none⟩ u) wA.heap.size g r.x ∧ Free (W.setCell ⟨b2, j, none⟩ u) g b2 := fun W j u h => ⟨h.1.free h.2 j u, h.2.set h.2.2.1 j u⟩
    exact (step _ _ _ (step _ _ _ (step _ _ _ (step _ _ _ (step _ _ _ (step _ _ _ ⟨HS4.out, HF4.out⟩)))))).1.drew
  have hU5 : Hid (Own W5 wA.heap.size 86 (.slice AU r.ts.length cU) r.ts) := by
    show Own _ _ _ _ _
    rw [hW5]
    refine Own.drew ?_
    repeat (refine Own.setCell ?_ (fun h => by have := HUN.out _ h; simp at this) _)
    exact hU4.out
  have hN5 : Hid (NetO W5 wA.heap.size (.agg #[.int .i64 r.x.nodes, .int .i64 r.x.now, .int .i64 r.x.next, .slice AW3 r.x.way.length cW3, .slice AC3 r.x.cuts.length cC3, .slice AT3 r.x.timers.length cT3]) r.x) := by
    obtain ⟨AW6, cW6, AC6, cC6, AT6, cT6, hg6, -, rW, rC, rT⟩ := hS5.open
    rw [hg5] at hg6
    injection hg6 with hg6
    injection hg6 with hg6
    simp only [Array.mk.injEq, List.cons.injEq, Value.slice.injEq, true_and, and_true] at hg6
    obtain ⟨⟨rfl, rfl⟩, ⟨rfl, rfl⟩, rfl, rfl⟩ := hg6
    exact ⟨_, _, _, _, _, _, rfl, rW, rC, rT⟩
  have hs5s : W5.heap.size = W4.heap.size := by rw [hW5]; simp [World.setCell]
  rw [← hW5]
  clear hW5 hfar hs4 ha4 hz4 hy4 hg4 hb4 hU4 hS5 s0 s1 s2 s3 s4 s5 s6 s7 s8 s9 s10 s11 s12 t0 t1 t2 t3 t4 t5 t6 t7 t8 t9 t10 t11 t12 m0 m1 m2 m3 m4 k0 k1 k2 k3 k4 k5 x1 x2 l1
  rw [← hs5s] at l2 l3 l4 l5
  clear hs5s
  obtain ⟨⟨s0, s1, s2, s3, s4, s5, s6, s7, s8, s9, s10, s11, s12⟩, -⟩ := blc13 hs5
  obtain ⟨⟨y0, y1, y2, y3, y4, y5, y6, y7, y8, y9, y10, y11, y12⟩, z0, z1, z2, z3, z4, z5, z6, z7, z8, z9, z10, z11, z12⟩ := blc13 hy5
  obtain ⟨⟨k0, k1, k2, k3, k4, k5⟩, -⟩ := blc6 hg5
  obtain ⟨⟨m0, m1, m2, m3, m4, m5⟩, n0, n1, n2, n3, n4, n5⟩ := blc6 hz5
  have x1 : ¬ b2 = w.heap.size + 1 + 1 := by omega
  have x2 : ¬ w.heap.size + 1 + 1 = b2 := by omega
  have x5 : ¬ g = w.heap.size + 1 + 1 := by omega
  have x6 : ¬ w.heap.size + 1 + 1 = g := by omega
  have x7 : ¬ b2 = w.heap.size + 1 + 1 + 1 := by omega
  have x8 : ¬ w.heap.size + 1 + 1 + 1 = b2 := by omega
  have x9 : ¬ g = w.heap.size + 1 + 1 + 1 := by omega
  have x10 : ¬ w.heap.size + 1 + 1 + 1 = g := by omega
  go_wp2
  go_region
  go_wp2
  exact ret_cct Tryz.results19 (w.heap.size + 1 + 1) (w.heap.size + 1 + 1 + 1) 26 52 #[.int .i64 r.x.nodes, .int .i64 r.x.now, .int .i64 r.x.next, .slice AW3 r.x.way.length cW3, .slice AC3 r.x.cuts.length cC3, .slice AT3 r.x.timers.length cT3] #[.int .i64 a.k, .int .i64 a.a, .int .i64 a.b, .int .i64 a.n, .string a.data, .int .i64 r.e, .int .i64 r.x.now, .int .i64 0, .int .i64 0, .int .i64 0, .int .i64 0, .string ⟨#[]⟩, .slice none 0 0] _ _ rfl
    (bl_drew (put13_far (bl_all6 hz5 _ _ _ _ _ _) (by omega))) Tryz.underlying26 rfl sizeNet rfl (bl_drew (put13_all (bl_far6 hy5 (by omega) _ _ _ _ _ _))) Tryz.underlying52 rfl sizeSn rfl
    ⟨_, _, by rw [HL.out]; rfl, by rw [HTS.out]; exact Own.nil _ _ _, NetO.weaken (B := wA.heap.size) ((put13_net (hN5.out.far6 (by omega) _ _ _ _ _ _) (by omega)).drew) (by omega), (put13_below (below_set6 hb5 (by omega) _ _ _ _ _ _) (by omega)).drew⟩

end
end Go.Proofs.YthlbmcfliejdiaaGreat
end

section
set_option linter.unusedVariables false
set_option linter.unusedSimpArgs false
namespace Go.Proofs.YthlbmcfliejdiaaGreat
open Go.RowKit

/-- What Do leaves. -/
def doQ (x : Nt) (a : Ac) (w : World) (e : Ending) (w' : World) : Prop :=
  ∃ v' u, e = .returned (.tuple #[v', .agg #[.int .i64 (doSR x a).a.k, .int .i64 (doSR x a).a.a, .int .i64 (doSR x a).a.b, .int .i64 (doSR x a).a.n, .string (doSR x a).a.data, .int .i64 (doSR x a).e, .int .i64 (doSR x a).now, .int .i64 (doSR x a).l.id, .int .i64 (doSR x a).l.fr, .int .i64 (doSR x a).l.to, .int .i64 (doSR x a).l.rd, .string (doSR x a).l.data, u], .int .i64 (doER x)]) ∧ Own w' w.heap.size 86 u (doSR x a).ts ∧ NetO w' w.heap.size v' (doXR x a) ∧ Below w.heap.size w w'
theorem doQ_err {x : Nt} {a : Ac} (hx : Ok x) {r : Rs} (hr : actM x a = r) (he : r.e ≠ 0) {w : World} {e : Ending} {w' : World}
    (h : ∃ v' u, e = .returned (.tuple #[v', .agg #[.int .i64 a.k, .int .i64 a.a, .int .i64 a.b, .int .i64 a.n, .string a.data, .int .i64 r.e, .int .i64 x.now, .int .i64 0, .int .i64 0, .int .i64 0, .int .i64 0, .string ⟨#[]⟩, u], .int .i64 0]) ∧ Own w' w.heap.size 86 u ([] : List Tm) ∧ NetO w' w.heap.size v' x ∧ Below w.heap.size w w') : doQ x a w e w' := by
  have h1 : doSR x a = ⟨a, r.e, x.now, zLt, []⟩ := by rw [doSR_ok hx]; unfold doS; rw [hr, if_neg he]
  have h2 : doXR x a = x := by rw [doXR_ok hx]; unfold doX; rw [hr, if_neg he]
  have h3 : doER x = 0 := by unfold doER; rw [if_neg (by simp [(ok_iff x).2 hx])]
  unfold doQ
  rw [h1, h2, h3]
  exact h
theorem doQ_ok {x : Nt} {a : Ac} (hx : Ok x) {r : Rs} (hr : actM x a = r) (he : r.e = 0) {w : World} {e : Ending} {w' : World}
    (h : ∃ v' u, e = .returned (.tuple #[v', .agg #[.int .i64 a.k, .int .i64 a.a, .int .i64 a.b, .int .i64 a.n, .string a.data, .int .i64 r.e, .int .i64 r.x.now, .int .i64 r.l.id, .int .i64 r.l.fr, .int .i64 r.l.to, .int .i64 r.l.rd, .string r.l.data, u], .int .i64 0]) ∧ Own w' w.heap.size 86 u r.ts ∧ NetO w' w.heap.size v' r.x ∧ Below w.heap.size w w') : doQ x a w e w' := by
  have h1 : doSR x a = ⟨a, 0, r.x.now, r.l, r.ts⟩ := by rw [doSR_ok hx]; unfold doS; rw [hr, if_pos he]
  have h2 : doXR x a = r.x := by rw [doXR_ok hx]; unfold doX; rw [hr, if_pos he]
  have h3 : doER x = 0 := by unfold doER; rw [if_neg (by simp [(ok_iff x).2 hx])]
  unfold doQ
  rw [h1, h2, h3]
  rw [he] at h
  exact h
set_option maxRecDepth 100000 in
theorem metL (p : Value) (W : World) : (method 288 132 p "understory/net.does").run Tryz.prog W = .ok (144, p) W := by rfl
set_option maxRecDepth 100000 in
theorem metP (p : Value) (W : World) : (method 288 133 p "understory/net.does").run Tryz.prog W = .ok (145, p) W := by rfl
set_option maxRecDepth 100000 in
theorem metT (p : Value) (W : World) : (method 288 135 p "understory/net.does").run Tryz.prog W = .ok (146, p) W := by rfl
theorem egL : ∀ args w, (callFunc 144 args).run Tryz.prog w = .ok (.enter 144 args) w := enters_of Tryz.func144 (by kernel_rfl) rfl
theorem egP : ∀ args w, (callFunc 145 args).run Tryz.prog w = .ok (.enter 145 args) w := enters_of Tryz.func145 (by kernel_rfl) rfl
theorem egT : ∀ args w, (callFunc 146 args).run Tryz.prog w = .ok (.enter 146 args) w := enters_of Tryz.func146 (by kernel_rfl) rfl

theorem ts_send (x : Nt) (a : Ac) : (sendM x a.a a.b a.data).ts = [] := by
  unfold sendM
  repeat' split
  all_goals rfl

theorem Do_1 (x : Nt) (a : Ac) (v : Value) (w : World) (hV : NetV w v x) (hx : Ok x) (hk : a.k = 1) : Calls Tryz.prog 19 #[v, .agg #[.int .i64 a.k, .int .i64 a.a, .int .i64 a.b, .int .i64 a.n, .string a.data]] w (doQ x a w) := by
  have hr : actM x a = (sendM x a.a a.b a.data) := by simp [actM, hk]
  have hact := fun W => actOf_1 a W hk
  have hdoes : ∀ (B g p : Nat) (W : World), St W B g x → W.heap[p]? = some (.cells #[.int .i64 a.k, .int .i64 a.a, .int .i64 a.b, .int .i64 a.n, .string a.data] 50 (0, 0)) → Calls Tryz.prog 144 #[.func (.func 77) #[] #[.pointer (some ⟨p, 0, none⟩)], .pointer (some ⟨g, 0, none⟩)] W (snQ B g W (sendM x a.a a.b a.data)) :=
    fun B g p W hS hp => doesL (fid := 77) (lb := #[.pointer (some ⟨p, 0, none⟩)]) B g x _ W (enters_of Tryz.func77 (by kernel_rfl) rfl) hS (ts_send x a) (fun w1 hb hS1 => act1_m B g p x a w1 hS1 hx (bl_below hp hb))
  by_cases he : (sendM x a.a a.b a.data).e = 0
  · exact (Do_show (py := fun p => .func (.func 77) #[] #[.pointer (some ⟨p, 0, none⟩)]) x a v w hV hx (sendM x a.a a.b a.data) he (fun p W => metL _ W) egL hact (fun p W => shows_L _ W) hdoes).mono fun e w' h => doQ_ok hx hr he h
  · exact (Do_err (py := fun p => .func (.func 77) #[] #[.pointer (some ⟨p, 0, none⟩)]) x a v w hV hx (sendM x a.a a.b a.data) he (send_bad he) (fun p W => metL _ W) egL hact hdoes).mono fun e w' h => doQ_err hx hr he h

theorem ts_deliver (x : Nt) (a : Ac) : (deliverM x a.n).ts = [] := by
  unfold deliverM
  repeat' split
  all_goals rfl

theorem Do_2 (x : Nt) (a : Ac) (v : Value) (w : World) (hV : NetV w v x) (hx : Ok x) (hk : a.k = 2) : Calls Tryz.prog 19 #[v, .agg #[.int .i64 a.k, .int .i64 a.a, .int .i64 a.b, .int .i64 a.n, .string a.data]] w (doQ x a w) := by
  have hr : actM x a = (deliverM x a.n) := by simp [actM, hk]
  have hact := fun W => actOf_2 a W hk
  have hdoes : ∀ (B g p : Nat) (W : World), St W B g x → W.heap[p]? = some (.cells #[.int .i64 a.k, .int .i64 a.a, .int .i64 a.b, .int .i64 a.n, .string a.data] 50 (0, 0)) → Calls Tryz.prog 144 #[.func (.func 78) #[] #[.pointer (some ⟨p, 0, none⟩)], .pointer (some ⟨g, 0, none⟩)] W (snQ B g W (deliverM x a.n)) :=
    fun B g p W hS hp => doesL (fid := 78) (lb := #[.pointer (some ⟨p, 0, none⟩)]) B g x _ W (enters_of Tryz.func78 (by kernel_rfl) rfl) hS (ts_deliver x a) (fun w1 hb hS1 => act2_m B g p x a w1 hS1 hx (bl_below hp hb))
  by_cases he : (deliverM x a.n).e = 0
  · exact (Do_show (py := fun p => .func (.func 78) #[] #[.pointer (some ⟨p, 0, none⟩)]) x a v w hV hx (deliverM x a.n) he (fun p W => metL _ W) egL hact (fun p W => shows_L _ W) hdoes).mono fun e w' h => doQ_ok hx hr he h
  · exact (Do_err (py := fun p => .func (.func 78) #[] #[.pointer (some ⟨p, 0, none⟩)]) x a v w hV hx (deliverM x a.n) he (deliver_bad he) (fun p W => metL _ W) egL hact hdoes).mono fun e w' h => doQ_err hx hr he h

theorem ts_lose (x : Nt) (a : Ac) : (loseM x a.n).ts = [] := by
  unfold loseM
  repeat' split
  all_goals rfl

theorem Do_3 (x : Nt) (a : Ac) (v : Value) (w : World) (hV : NetV w v x) (hx : Ok x) (hk : a.k = 3) : Calls Tryz.prog 19 #[v, .agg #[.int .i64 a.k, .int .i64 a.a, .int .i64 a.b, .int .i64 a.n, .string a.data]] w (doQ x a w) := by
  have hr : actM x a = (loseM x a.n) := by simp [actM, hk]
  have hact := fun W => actOf_3 a W hk
  have hdoes : ∀ (B g p : Nat) (W : World), St W B g x → W.heap[p]? = some (.cells #[.int .i64 a.k, .int .i64 a.a, .int .i64 a.b, .int .i64 a.n, .string a.data] 50 (0, 0)) → Calls Tryz.prog 144 #[.func (.func 79) #[] #[.pointer (some ⟨p, 0, none⟩)], .pointer (some ⟨g, 0, none⟩)] W (snQ B g W (loseM x a.n)) :=
    fun B g p W hS hp => doesL (fid := 79) (lb := #[.pointer (some ⟨p, 0, none⟩)]) B g x _ W (enters_of Tryz.func79 (by kernel_rfl) rfl) hS (ts_lose x a) (fun w1 hb hS1 => act3_m B g p x a w1 hS1 hx (bl_below hp hb))
  by_cases he : (loseM x a.n).e = 0
  · exact (Do_show (py := fun p => .func (.func 79) #[] #[.pointer (some ⟨p, 0, none⟩)]) x a v w hV hx (loseM x a.n) he (fun p W => metL _ W) egL hact (fun p W => shows_L _ W) hdoes).mono fun e w' h => doQ_ok hx hr he h
  · exact (Do_err (py := fun p => .func (.func 79) #[] #[.pointer (some ⟨p, 0, none⟩)]) x a v w hV hx (loseM x a.n) he (lose_bad he) (fun p W => metL _ W) egL hact hdoes).mono fun e w' h => doQ_err hx hr he h

theorem ts_double (x : Nt) (a : Ac) : (doubleM x a.n).ts = [] := by
  unfold doubleM
  repeat' split
  all_goals rfl

theorem Do_4 (x : Nt) (a : Ac) (v : Value) (w : World) (hV : NetV w v x) (hx : Ok x) (hk : a.k = 4) : Calls Tryz.prog 19 #[v, .agg #[.int .i64 a.k, .int .i64 a.a, .int .i64 a.b, .int .i64 a.n, .string a.data]] w (doQ x a w) := by
  have hr : actM x a = (doubleM x a.n) := by simp [actM, hk]
  have hact := fun W => actOf_4 a W hk
  have hdoes : ∀ (B g p : Nat) (W : World), St W B g x → W.heap[p]? = some (.cells #[.int .i64 a.k, .int .i64 a.a, .int .i64 a.b, .int .i64 a.n, .string a.data] 50 (0, 0)) → Calls Tryz.prog 144 #[.func (.func 80) #[] #[.pointer (some ⟨p, 0, none⟩)], .pointer (some ⟨g, 0, none⟩)] W (snQ B g W (doubleM x a.n)) :=
    fun B g p W hS hp => doesL (fid := 80) (lb := #[.pointer (some ⟨p, 0, none⟩)]) B g x _ W (enters_of Tryz.func80 (by kernel_rfl) rfl) hS (ts_double x a) (fun w1 hb hS1 => act4_m B g p x a w1 hS1 hx (bl_below hp hb))
  by_cases he : (doubleM x a.n).e = 0
  · exact (Do_show (py := fun p => .func (.func 80) #[] #[.pointer (some ⟨p, 0, none⟩)]) x a v w hV hx (doubleM x a.n) he (fun p W => metL _ W) egL hact (fun p W => shows_L _ W) hdoes).mono fun e w' h => doQ_ok hx hr he h
  · exact (Do_err (py := fun p => .func (.func 80) #[] #[.pointer (some ⟨p, 0, none⟩)]) x a v w hV hx (doubleM x a.n) he (double_bad he) (fun p W => metL _ W) egL hact hdoes).mono fun e w' h => doQ_err hx hr he h

theorem ts_delay (x : Nt) (a : Ac) : (delayM x a.n a.b).ts = [] := by
  unfold delayM
  repeat' split
  all_goals rfl

theorem Do_5 (x : Nt) (a : Ac) (v : Value) (w : World) (hV : NetV w v x) (hx : Ok x) (hk : a.k = 5) : Calls Tryz.prog 19 #[v, .agg #[.int .i64 a.k, .int .i64 a.a, .int .i64 a.b, .int .i64 a.n, .string a.data]] w (doQ x a w) := by
  have hr : actM x a = (delayM x a.n a.b) := by simp [actM, hk]
  have hact := fun W => actOf_5 a W hk
  have hdoes : ∀ (B g p : Nat) (W : World), St W B g x → W.heap[p]? = some (.cells #[.int .i64 a.k, .int .i64 a.a, .int .i64 a.b, .int .i64 a.n, .string a.data] 50 (0, 0)) → Calls Tryz.prog 144 #[.func (.func 81) #[] #[.pointer (some ⟨p, 0, none⟩)], .pointer (some ⟨g, 0, none⟩)] W (snQ B g W (delayM x a.n a.b)) :=
    fun B g p W hS hp => doesL (fid := 81) (lb := #[.pointer (some ⟨p, 0, none⟩)]) B g x _ W (enters_of Tryz.func81 (by kernel_rfl) rfl) hS (ts_delay x a) (fun w1 hb hS1 => act5_m B g p x a w1 hS1 hx (bl_below hp hb))
  by_cases he : (delayM x a.n a.b).e = 0
  · exact (Do_show (py := fun p => .func (.func 81) #[] #[.pointer (some ⟨p, 0, none⟩)]) x a v w hV hx (delayM x a.n a.b) he (fun p W => metL _ W) egL hact (fun p W => shows_L _ W) hdoes).mono fun e w' h => doQ_ok hx hr he h
  · exact (Do_err (py := fun p => .func (.func 81) #[] #[.pointer (some ⟨p, 0, none⟩)]) x a v w hV hx (delayM x a.n a.b) he (delay_bad he) (fun p W => metL _ W) egL hact hdoes).mono fun e w' h => doQ_err hx hr he h

theorem ts_cut (x : Nt) (a : Ac) : (cutM x a.a a.b).ts = [] := by
  unfold cutM
  repeat' split
  all_goals rfl

theorem l_cut (x : Nt) (a : Ac) : (cutM x a.a a.b).l = zLt := by
  unfold cutM
  repeat' split
  all_goals rfl

theorem Do_6 (x : Nt) (a : Ac) (v : Value) (w : World) (hV : NetV w v x) (hx : Ok x) (hk : a.k = 6) : Calls Tryz.prog 19 #[v, .agg #[.int .i64 a.k, .int .i64 a.a, .int .i64 a.b, .int .i64 a.n, .string a.data]] w (doQ x a w) := by
  have hr : actM x a = (cutM x a.a a.b) := by simp [actM, hk]
  have hact := fun W => actOf_6 a W hk
  have hdoes : ∀ (B g p : Nat) (W : World), St W B g x → W.heap[p]? = some (.cells #[.int .i64 a.k, .int .i64 a.a, .int .i64 a.b, .int .i64 a.n, .string a.data] 50 (0, 0)) → Calls Tryz.prog 145 #[.func (.func 82) #[] #[.pointer (some ⟨p, 0, none⟩)], .pointer (some ⟨g, 0, none⟩)] W (snQ B g W (cutM x a.a a.b)) :=
    fun B g p W hS hp => doesP (fid := 82) (lb := #[.pointer (some ⟨p, 0, none⟩)]) B g x _ W (enters_of Tryz.func82 (by kernel_rfl) rfl) hS (l_cut x a) (ts_cut x a) (fun w1 hb hS1 => act6_m B g p x a w1 hS1 hx (bl_below hp hb))
  by_cases he : (cutM x a.a a.b).e = 0
  · exact (Do_plain (py := fun p => .func (.func 82) #[] #[.pointer (some ⟨p, 0, none⟩)]) x a v w hV hx (cutM x a.a a.b) he (l_cut x a) (ts_cut x a) (fun p W => metP _ W) egP hact (fun p W => shows_P _ W) hdoes).mono fun e w' h => doQ_ok hx hr he h
  · exact (Do_err (py := fun p => .func (.func 82) #[] #[.pointer (some ⟨p, 0, none⟩)]) x a v w hV hx (cutM x a.a a.b) he (cut_bad he) (fun p W => metP _ W) egP hact hdoes).mono fun e w' h => doQ_err hx hr he h

theorem ts_heal (x : Nt) (a : Ac) : (healM x a.a a.b).ts = [] := by
  unfold healM
  repeat' split
  all_goals rfl

theorem l_heal (x : Nt) (a : Ac) : (healM x a.a a.b).l = zLt := by
  unfold healM
  repeat' split
  all_goals rfl

theorem Do_7 (x : Nt) (a : Ac) (v : Value) (w : World) (hV : NetV w v x) (hx : Ok x) (hk : a.k = 7) : Calls Tryz.prog 19 #[v, .agg #[.int .i64 a.k, .int .i64 a.a, .int .i64 a.b, .int .i64 a.n, .string a.data]] w (doQ x a w) := by
  have hr : actM x a = (healM x a.a a.b) := by simp [actM, hk]
  have hact := fun W => actOf_7 a W hk
  have hdoes : ∀ (B g p : Nat) (W : World), St W B g x → W.heap[p]? = some (.cells #[.int .i64 a.k, .int .i64 a.a, .int .i64 a.b, .int .i64 a.n, .string a.data] 50 (0, 0)) → Calls Tryz.prog 145 #[.func (.func 83) #[] #[.pointer (some ⟨p, 0, none⟩)], .pointer (some ⟨g, 0, none⟩)] W (snQ B g W (healM x a.a a.b)) :=
    fun B g p W hS hp => doesP (fid := 83) (lb := #[.pointer (some ⟨p, 0, none⟩)]) B g x _ W (enters_of Tryz.func83 (by kernel_rfl) rfl) hS (l_heal x a) (ts_heal x a) (fun w1 hb hS1 => act7_m B g p x a w1 hS1 hx (bl_below hp hb))
  by_cases he : (healM x a.a a.b).e = 0
  · exact (Do_plain (py := fun p => .func (.func 83) #[] #[.pointer (some ⟨p, 0, none⟩)]) x a v w hV hx (healM x a.a a.b) he (l_heal x a) (ts_heal x a) (fun p W => metP _ W) egP hact (fun p W => shows_P _ W) hdoes).mono fun e w' h => doQ_ok hx hr he h
  · exact (Do_err (py := fun p => .func (.func 83) #[] #[.pointer (some ⟨p, 0, none⟩)]) x a v w hV hx (healM x a.a a.b) he (heal_bad he) (fun p W => metP _ W) egP hact hdoes).mono fun e w' h => doQ_err hx hr he h

theorem ts_set (x : Nt) (a : Ac) : (setM x a.a a.b a.n).ts = [] := by
  unfold setM
  repeat' split
  all_goals rfl

theorem l_set (x : Nt) (a : Ac) : (setM x a.a a.b a.n).l = zLt := by
  unfold setM
  repeat' split
  all_goals rfl

theorem Do_8 (x : Nt) (a : Ac) (v : Value) (w : World) (hV : NetV w v x) (hx : Ok x) (hk : a.k = 8) : Calls Tryz.prog 19 #[v, .agg #[.int .i64 a.k, .int .i64 a.a, .int .i64 a.b, .int .i64 a.n, .string a.data]] w (doQ x a w) := by
  have hr : actM x a = (setM x a.a a.b a.n) := by simp [actM, hk]
  have hact := fun W => actOf_8 a W hk
  have hdoes : ∀ (B g p : Nat) (W : World), St W B g x → W.heap[p]? = some (.cells #[.int .i64 a.k, .int .i64 a.a, .int .i64 a.b, .int .i64 a.n, .string a.data] 50 (0, 0)) → Calls Tryz.prog 145 #[.func (.func 85) #[] #[.pointer (some ⟨p, 0, none⟩)], .pointer (some ⟨g, 0, none⟩)] W (snQ B g W (setM x a.a a.b a.n)) :=
    fun B g p W hS hp => doesP (fid := 85) (lb := #[.pointer (some ⟨p, 0, none⟩)]) B g x _ W (enters_of Tryz.func85 (by kernel_rfl) rfl) hS (l_set x a) (ts_set x a) (fun w1 hb hS1 => act8_m B g p x a w1 hS1 hx (bl_below hp hb))
  by_cases he : (setM x a.a a.b a.n).e = 0
  · exact (Do_plain (py := fun p => .func (.func 85) #[] #[.pointer (some ⟨p, 0, none⟩)]) x a v w hV hx (setM x a.a a.b a.n) he (l_set x a) (ts_set x a) (fun p W => metP _ W) egP hact (fun p W => shows_P _ W) hdoes).mono fun e w' h => doQ_ok hx hr he h
  · exact (Do_err (py := fun p => .func (.func 85) #[] #[.pointer (some ⟨p, 0, none⟩)]) x a v w hV hx (setM x a.a a.b a.n) he (set_bad he) (fun p W => metP _ W) egP hact hdoes).mono fun e w' h => doQ_err hx hr he h

theorem ts_stop (x : Nt) (a : Ac) : (stopM x a.a a.b).ts = [] := by
  unfold stopM
  repeat' split
  all_goals rfl

theorem l_stop (x : Nt) (a : Ac) : (stopM x a.a a.b).l = zLt := by
  unfold stopM
  repeat' split
  all_goals rfl

theorem Do_9 (x : Nt) (a : Ac) (v : Value) (w : World) (hV : NetV w v x) (hx : Ok x) (hk : a.k = 9) : Calls Tryz.prog 19 #[v, .agg #[.int .i64 a.k, .int .i64 a.a, .int .i64 a.b, .int .i64 a.n, .string a.data]] w (doQ x a w) := by
  have hr : actM x a = (stopM x a.a a.b) := by simp [actM, hk]
  have hact := fun W => actOf_9 a W hk
  have hdoes : ∀ (B g p : Nat) (W : World), St W B g x → W.heap[p]? = some (.cells #[.int .i64 a.k, .int .i64 a.a, .int .i64 a.b, .int .i64 a.n, .string a.data] 50 (0, 0)) → Calls Tryz.prog 145 #[.func (.func 86) #[] #[.pointer (some ⟨p, 0, none⟩)], .pointer (some ⟨g, 0, none⟩)] W (snQ B g W (stopM x a.a a.b)) :=
    fun B g p W hS hp => doesP (fid := 86) (lb := #[.pointer (some ⟨p, 0, none⟩)]) B g x _ W (enters_of Tryz.func86 (by kernel_rfl) rfl) hS (l_stop x a) (ts_stop x a) (fun w1 hb hS1 => act9_m B g p x a w1 hS1 hx (bl_below hp hb))
  by_cases he : (stopM x a.a a.b).e = 0
  · exact (Do_plain (py := fun p => .func (.func 86) #[] #[.pointer (some ⟨p, 0, none⟩)]) x a v w hV hx (stopM x a.a a.b) he (l_stop x a) (ts_stop x a) (fun p W => metP _ W) egP hact (fun p W => shows_P _ W) hdoes).mono fun e w' h => doQ_ok hx hr he h
  · exact (Do_err (py := fun p => .func (.func 86) #[] #[.pointer (some ⟨p, 0, none⟩)]) x a v w hV hx (stopM x a.a a.b) he (stop_bad he) (fun p W => metP _ W) egP hact hdoes).mono fun e w' h => doQ_err hx hr he h

theorem Do_10 (x : Nt) (a : Ac) (v : Value) (w : World) (hV : NetV w v x) (hx : Ok x) (hk : a.k = 10) : Calls Tryz.prog 19 #[v, .agg #[.int .i64 a.k, .int .i64 a.a, .int .i64 a.b, .int .i64 a.n, .string a.data]] w (doQ x a w) := by
  have hr : actM x a = tickM x := by simp [actM, hk]
  have hact := fun W => actOf_10 a W hk
  have hdoes : ∀ (B g p : Nat) (W : World), St W B g x → W.heap[p]? = some (.cells #[.int .i64 a.k, .int .i64 a.a, .int .i64 a.b, .int .i64 a.n, .string a.data] 50 (0, 0)) → Calls Tryz.prog 146 #[.agg #[], .pointer (some ⟨g, 0, none⟩)] W (snQ B g W (tickM x)) := fun B g p W hS hp => doesT B g x W hS hx
  by_cases he : (tickM x).e = 0
  · exact (Do_show (py := fun p => .agg #[]) x a v w hV hx (tickM x) he (fun p W => metT _ W) egT hact (fun p W => shows_T _ W) hdoes).mono fun e w' h => doQ_ok hx hr he h
  · exact (Do_err (py := fun p => .agg #[]) x a v w hV hx (tickM x) he (tick_bad he) (fun p W => metT _ W) egT hact hdoes).mono fun e w' h => doQ_err hx hr he h
theorem Do_0 (x : Nt) (a : Ac) (v : Value) (w : World) (hV : NetV w v x) (hx : Ok x) (hk : a.k < 1 ∨ 10 < a.k) : Calls Tryz.prog 19 #[v, .agg #[.int .i64 a.k, .int .i64 a.a, .int .i64 a.b, .int .i64 a.n, .string a.data]] w (doQ x a w) := by
  have hr : actM x a = errR 1 := by unfold actM; repeat (rw [if_neg (by omega)])
  have hact := fun W => actOf_0 a W hk
  have hdoes : ∀ (B g p : Nat) (W : World), St W B g x → W.heap[p]? = some (.cells #[.int .i64 a.k, .int .i64 a.a, .int .i64 a.b, .int .i64 a.n, .string a.data] 50 (0, 0)) → Calls Tryz.prog 145 #[.func (.func 88) #[] #[], .pointer (some ⟨g, 0, none⟩)] W (snQ B g W (errR 1)) :=
    fun B g p W hS hp => doesP (fid := 88) (lb := #[]) B g x _ W (enters_of Tryz.func88 (by kernel_rfl) rfl) hS rfl rfl (fun w1 hb hS1 => act0_m B g w1)
  exact (Do_err (py := fun p => .func (.func 88) #[] #[]) x a v w hV hx (errR 1) (by decide) rfl (fun p W => metP _ W) egP hact hdoes).mono fun e w' h => doQ_err hx hr (by decide) h
theorem Do_any (x : Nt) (a : Ac) (v : Value) (w : World) (hlw : x.way.length ≤ 10000000) (hlc : x.cuts.length ≤ 10000000) (hlt : x.timers.length ≤ 10000000) (hV : NetV w v x) : Calls Tryz.prog 19 #[v, .agg #[.int .i64 a.k, .int .i64 a.a, .int .i64 a.b, .int .i64 a.n, .string a.data]] w (doQ x a w) := by
  cases hx : checkB x
  · refine (Do_form x a v w hlw hlc hlt hV hx).mono fun e w' h => ⟨zNetV, .slice none 0 0, ?_, ?_, ?_, h.2⟩
    · rw [h.1]; simp only [doSR, doER, hx, if_true]; rfl
    · simp only [doSR, hx, if_true]; exact Own.nil _ _ _
    · simp only [doXR, hx, if_true]; exact zNetV_own _ _
  · have hk := (ok_iff x).1 hx
    rcases Int.lt_or_le a.k 1 with h | h
    · exact Do_0 x a v w hV hk (.inl h)
    · rcases Int.lt_or_le 10 a.k with h' | h'
      · exact Do_0 x a v w hV hk (.inr h')
      · obtain h | h | h | h | h | h | h | h | h | h : a.k = 1 ∨ a.k = 2 ∨ a.k = 3 ∨ a.k = 4 ∨ a.k = 5 ∨ a.k = 6 ∨ a.k = 7 ∨ a.k = 8 ∨ a.k = 9 ∨ a.k = 10 := by omega
        · exact Do_1 x a v w hV hk h
        · exact Do_2 x a v w hV hk h
        · exact Do_3 x a v w hV hk h
        · exact Do_4 x a v w hV hk h
        · exact Do_5 x a v w hV hk h
        · exact Do_6 x a v w hV hk h
        · exact Do_7 x a v w hV hk h
        · exact Do_8 x a v w hV hk h
        · exact Do_9 x a v w hV hk h
        · exact Do_10 x a v w hV hk h
end Go.Proofs.YthlbmcfliejdiaaGreat
end

section
set_option linter.unusedVariables false
set_option linter.unusedSimpArgs false
namespace Go.Proofs.YthlbmcfliejdiaaGreat
open Go.RowKit

/-- The walk stops here. -/
theorem hid_stop {p : Prop} (h : Hid p) : p := h
instance : Enc Ac := ⟨5, fun x => [.int .i64 x.k, .int .i64 x.a, .int .i64 x.b, .int .i64 x.n, .string x.data], fun _ => rfl, by simp [Value.oneCell']⟩
/-- What was seen as it lies in cells: its timers are a slice. -/
structure SnR where
  a : Ac
  e : Int
  now : Int
  l : Lt
  ta : Option Addr
  tn : Nat
  tc : Nat
instance : Enc SnR := ⟨13, fun s => [.int .i64 s.a.k, .int .i64 s.a.a, .int .i64 s.a.b, .int .i64 s.a.n, .string s.a.data, .int .i64 s.e, .int .i64 s.now, .int .i64 s.l.id, .int .i64 s.l.fr, .int .i64 s.l.to, .int .i64 s.l.rd, .string s.l.data, .slice s.ta s.tn s.tc], fun _ => rfl, by simp [Value.oneCell']⟩
/-- A raw element tells what was seen; its timers are read. -/
def IsSn (w : World) (r : SnR) (s : Sn) : Prop := r.a = s.a ∧ r.e = s.e ∧ r.now = s.now ∧ r.l = s.l ∧ r.tn = s.ts.length ∧ Rd w r.ta s.ts
/-- .. its timers are a row of the call's own. -/
def IsSnO (w : World) (B : Nat) (r : SnR) (s : Sn) : Prop := r.a = s.a ∧ r.e = s.e ∧ r.now = s.now ∧ r.l = s.l ∧ r.tn = s.ts.length ∧ Own w B 86 (.slice r.ta r.tn r.tc) s.ts
def Sns (w : World) (rs : List SnR) (xs : List Sn) : Prop := rs.length = xs.length ∧ ∀ (i : Nat) (r : SnR) (s : Sn), rs[i]? = some r → xs[i]? = some s → IsSn w r s
def SnsO (w : World) (B : Nat) (rs : List SnR) (xs : List Sn) : Prop := rs.length = xs.length ∧ ∀ (i : Nat) (r : SnR) (s : Sn), rs[i]? = some r → xs[i]? = some s → IsSnO w B r s
theorem IsSnO.is {w : World} {B : Nat} {r : SnR} {s : Sn} (h : IsSnO w B r s) : IsSn w r s := by
  obtain ⟨h1, h2, h3, h4, h5, h6⟩ := h
  rw [h5] at h6
  exact ⟨h1, h2, h3, h4, h5, h6.rd⟩
theorem SnsO.is {w : World} {B : Nat} {rs : List SnR} {xs : List Sn} (h : SnsO w B rs xs) : Sns w rs xs := ⟨h.1, fun i r s hr hs => (h.2 i r s hr hs).is⟩
theorem IsSn.below {w w1 : World} {r : SnR} {s : Sn} (h : IsSn w r s) (hb : Below w.heap.size w w1) : IsSn w1 r s := ⟨h.1, h.2.1, h.2.2.1, h.2.2.2.1, h.2.2.2.2.1, h.2.2.2.2.2.below hb⟩
theorem Sns.below {w w1 : World} {rs : List SnR} {xs : List Sn} (h : Sns w rs xs) (hb : Below w.heap.size w w1) : Sns w1 rs xs := ⟨h.1, fun i r s hr hs => (h.2 i r s hr hs).below hb⟩
theorem SnsO.below {w w1 : World} {B : Nat} {rs : List SnR} {xs : List Sn} (h : SnsO w B rs xs) (hb : Below w.heap.size w w1) : SnsO w1 B rs xs :=
  ⟨h.1, fun i r s hr hs => by obtain ⟨h1, h2, h3, h4, h5, h6⟩ := h.2 i r s hr hs; exact ⟨h1, h2, h3, h4, h5, h6.below hb⟩⟩
theorem SnsO.far {w : World} {B : Nat} {rs : List SnR} {xs : List Sn} (h : SnsO w B rs xs) {p : Addr} {t : TypeId} {cs : Array Value} {f : Nat × Nat} (hp : w.heap[p.block]? = some (.cells cs t f)) (hne : 86 ≠ t) (u : Value) : SnsO (w.setCell p u) B rs xs :=
  ⟨h.1, fun i r s hr hs => by obtain ⟨h1, h2, h3, h4, h5, h6⟩ := h.2 i r s hr hs; exact ⟨h1, h2, h3, h4, h5, h6.setCell (h6.ne hp hne) u⟩⟩
theorem SnsO.kept {α : Type} [Enc α] {w w1 : World} {B B' : Nat} {e : TypeId} {v : Value} {ys : List α} {rs : List SnR} {xs : List Sn} (h : SnsO w B rs xs) (ho : Own w B' e v ys) (hne : 86 ≠ e) (hg : w.grownBy w1 v.ownBlock) : SnsO w1 B rs xs :=
  ⟨h.1, fun i r s hr hs => by obtain ⟨h1, h2, h3, h4, h5, h6⟩ := h.2 i r s hr hs; exact ⟨h1, h2, h3, h4, h5, h6.kept hg (h6.ne_own ho hne)⟩⟩
theorem SnsO.nil (w : World) (B : Nat) : SnsO w B [] [] := ⟨rfl, fun i r s hr _ => by simp at hr⟩
theorem SnsO.snoc {w : World} {B : Nat} {rs : List SnR} {xs : List Sn} {r : SnR} {s : Sn} (h : SnsO w B rs xs) (h1 : IsSnO w B r s) : SnsO w B (rs ++ [r]) (xs ++ [s]) := by
  refine ⟨by simp [h.1], fun i r' s' hr hs => ?_⟩
  rcases Nat.lt_or_ge i rs.length with hi | hi
  · rw [List.getElem?_append_left hi] at hr
    rw [List.getElem?_append_left (by rw [← h.1]; exact hi)] at hs
    exact h.2 i r' s' hr hs
  · rw [List.getElem?_append_right hi] at hr
    rw [List.getElem?_append_right (by rw [← h.1]; exact hi)] at hs
    have h0 : i - rs.length = 0 := by
      have := (List.getElem?_eq_some_iff.1 hr).1
      simp at this
      omega
    rw [h0] at hr
    rw [← h.1, h0] at hs
    simp at hr hs
    subst hr; subst hs
    exact h1
theorem NetO.kept {α : Type} [Enc α] {w w1 : World} {B B' : Nat} {e : TypeId} {v u : Value} {ys : List α} {x : Nt} (h : NetO w B u x) (ho : Own w B' e v ys) (hg : w.grownBy w1 v.ownBlock) (h1 : 33 ≠ e) (h2 : 96 ≠ e) (h3 : 86 ≠ e) : NetO w1 B u x := by
  obtain ⟨AW, cW, AC, cC, AT, cT, rfl, hW, hC, hT⟩ := h
  exact ⟨AW, cW, AC, cC, AT, cT, rfl, hW.kept hg (hW.ne_own ho h1), hC.kept hg (hC.ne_own ho h2), hT.kept hg (hT.ne_own ho h3)⟩
theorem NetO.ne {w : World} {B : Nat} {v : Value} {x : Nt} (h : NetO w B v x) {p : Addr} {t : TypeId} {cs : Array Value} {f : Nat × Nat} (hp : w.heap[p.block]? = some (.cells cs t f)) (h1 : 33 ≠ t) (h2 : 96 ≠ t) (h3 : 86 ≠ t) (u : Value) : NetO (w.setCell p u) B v x := by
  obtain ⟨AW, cW, AC, cC, AT, cT, rfl, hW, hC, hT⟩ := h
  exact ⟨AW, cW, AC, cC, AT, cT, rfl, hW.setCell (hW.ne hp h1) u, hC.setCell (hC.ne hp h2) u, hT.setCell (hT.ne hp h3) u⟩
theorem Rd.ac {w : World} {A : Option Addr} {xs : List Ac} (h : Rd w A xs) (i : Nat) (hi : i < xs.length) :
    ∃ b off x, A = some ⟨b, off, none⟩ ∧ Hid (xs[i]? = some x) ∧ w.cell? ⟨b, off + i * 5, none⟩ = some (.int .i64 x.k) ∧ w.cell? ⟨b, off + i * 5 + 1, none⟩ = some (.int .i64 x.a) ∧ w.cell? ⟨b, off + i * 5 + 2, none⟩ = some (.int .i64 x.b) ∧
      w.cell? ⟨b, off + i * 5 + 3, none⟩ = some (.int .i64 x.n) ∧ w.cell? ⟨b, off + i * 5 + 4, none⟩ = some (.string x.data) := by
  obtain ⟨b, off, x, e, hx, hc⟩ := h.any i hi
  exact ⟨b, off, x, e, hx, hc 0 _ rfl, hc 1 _ rfl, hc 2 _ rfl, hc 3 _ rfl, hc 4 _ rfl⟩
theorem infoS : (Tryz.prog.info? 52).map (fun i => (i.zero, i.size, i.bytes)) = some (some (.agg #[.int .i64 0, .int .i64 0, .int .i64 0, .int .i64 0, .string ⟨#[]⟩, .int .i64 0, .int .i64 0, .int .i64 0, .int .i64 0, .int .i64 0, .int .i64 0, .string ⟨#[]⟩, .slice none 0 0]), 13, 136) := by kernel_rfl

/-! Play, act by act. -/
theorem playX_snoc : ∀ (x : Nt) (l : List Ac) (a : Ac), playX x (l ++ [a]) = doXR (playX x l) a
  | x, [], a => rfl
  | x, b :: l, a => playX_snoc (doXR x b) l a
theorem playS_snoc : ∀ (x : Nt) (l : List Ac) (a : Ac), playS x (l ++ [a]) = playS x l ++ [doSR (playX x l) a]
  | x, [], a => rfl
  | x, b :: l, a => by
    show doSR x b :: playS (doXR x b) (l ++ [a]) = _
    rw [playS_snoc (doXR x b) l a]; rfl
theorem playS_length : ∀ (x : Nt) (l : List Ac), (playS x l).length = l.length
  | x, [] => rfl
  | x, b :: l => by show (playS (doXR x b) l).length + 1 = l.length + 1; rw [playS_length]
def newX (n : Int) : Nt := ⟨n, 0, 0, [], [], []⟩
theorem newX_ok {n : Int} (h0 : 1 ≤ n) (h1 : n ≤ 16) : Ok (newX n) := by
  have h : (newR n).e = 0 := by unfold newR; rw [if_neg (by omega)]
  have := new_ok h
  unfold newR at this
  rwa [if_neg (by omega)] at this
end Go.Proofs.YthlbmcfliejdiaaGreat
end

section
set_option linter.unusedVariables false
set_option linter.unusedSimpArgs false
namespace Go.Proofs.YthlbmcfliejdiaaGreat
open Go.RowKit

set_option maxHeartbeats 1000000 in
set_option maxRecDepth 100000 in
theorem Play_bad (n : Int) (v : Value) (w : World) (h : n < 1 ∨ 16 < n) : Calls Tryz.prog 22 #[.int .i64 n, v] w fun e w' => e = .returned (.tuple #[zNetV, .slice none 0 0, .int .i64 1]) ∧ Below w.heap.size w w' := by
  have HN := Lib.hid (fun W => New_bad n W h)
  clear h
  go_enter Tryz.func22, Tryz.ntmps22
  go_wp2_with (go_at_call 31; refine (HN.out _).mono ?_; rintro e w1 ⟨rfl, hb1⟩; simp only [zNetV]; have hz := bl_below (bl_new w (.cells #[.int .i64 0, .int .i64 0, .int .i64 0, .slice none 0 0, .slice none 0 0, .slice none 0 0] 26)) hb1; obtain ⟨⟨a0, a1, a2, a3, a4, a5⟩, b0, b1, b2, b3, b4, b5⟩ := blc6 hz; have hlz := bl_lt hz)
  exact ret_ctt Tryz.results22 w.heap.size 26 #[.int .i64 0, .int .i64 0, .int .i64 0, .slice none 0 0, .slice none 0 0, .slice none 0 0] _ rfl (bl_alloc (bl_all6 hz _ _ _ _ _ _) _) Tryz.underlying26 rfl sizeNet rfl ⟨rfl, below_alloc (below_set6 (below_trans (below_alloc (Below.refl _ _) _) hb1) (Nat.le_refl _) _ _ _ _ _ _) _⟩

set_option maxHeartbeats 4000000 in
set_option maxRecDepth 100000 in
theorem Play_good (n : Int) (acts : List Ac) (A : Option Addr) (c : Nat) (w : World) (h0 : 1 ≤ n) (h1 : n ≤ 16) (hR : Rd w A acts) (hl : acts.length ≤ 1000000) :
    Calls Tryz.prog 22 #[.int .i64 n, .slice A acts.length c] w fun e w' => ∃ v u rs, e = .returned (.tuple #[v, u, .int .i64 0]) ∧ NetO w' w.heap.size v (playX (newX n) acts) ∧ Own w' w.heap.size 52 u rs ∧ SnsO w' w.heap.size rs (playS (newX n) acts) ∧ Below w.heap.size w w' := by
  have HX0 := Lib.hid (newX_ok h0 h1)
  have HN := Lib.hid (fun W => New_ok n W h0 h1)
  have HR := Lib.hid hR
  obtain ⟨x0, hx0⟩ : ∃ x0, x0 = newX n := ⟨_, rfl⟩
  have HXE := Lib.hid hx0
  rw [← hx0] at HX0 ⊢
  clear hR hx0
  go_enter Tryz.func22, Tryz.ntmps22
  go_wp2_with (go_at_call 31; refine (HN.out _).mono ?_; rintro e w1 ⟨rfl, hb1⟩; have hz := bl_below (bl_new w (.cells #[.int .i64 0, .int .i64 0, .int .i64 0, .slice none 0 0, .slice none 0 0, .slice none 0 0] 26)) hb1; have hlz := bl_lt hz)
  obtain ⟨W1, hW1⟩ : ∃ W1, W1 = w1.alloc (.cells #[.int .i64 n, .int .i64 0, .int .i64 0, .slice none 0 0, .slice none 0 0, .slice none 0 0] 26) := ⟨_, rfl⟩
  rw [← hW1]
  have hb2 : Below w.heap.size w W1 := by rw [hW1]; exact below_alloc (below_trans (below_alloc (Below.refl _ _) _) hb1) _
  have hz1 : W1.heap[w.heap.size]? = some (.cells #[.int .i64 0, .int .i64 0, .int .i64 0, .slice none 0 0, .slice none 0 0, .slice none 0 0] 26 (0, 0)) := by rw [hW1]; exact bl_alloc hz _
  have hn1 : W1.heap[w1.heap.size]? = some (.cells #[.int .i64 n, .int .i64 0, .int .i64 0, .slice none 0 0, .slice none 0 0, .slice none 0 0] 26 (0, 0)) := by rw [hW1]; exact bl_new _ _
  clear hW1 hb1 hz
  obtain ⟨bn, hbn⟩ : ∃ bn, bn = w1.heap.size := ⟨_, rfl⟩
  rw [← hbn] at hn1 hlz ⊢
  clear hbn
  have HB2 := Lib.hid hb2
  have HZ1 := Lib.hid hz1
  have HN1 := Lib.hid hn1
  clear hb2 hz1 hn1
  go_loopg [9, 24] acts.length (fun kx v i wr => ∃ (k : Nat) (rs : List SnR) (AW : Option Addr) (cW : Nat) (AC : Option Addr) (cC : Nat) (AT : Option Addr) (cT : Nat) (x : Nt), k ≤ acts.length ∧ acts.length - k ≤ kx ∧ i = .int .i64 k ∧ Hid (x = playX x0 (acts.take k)) ∧ Hid (Own wr w.heap.size 52 v rs) ∧
    Hid (SnsO wr w.heap.size rs (playS x0 (acts.take k))) ∧ Hid (wr.heap[bn]? = some (.cells #[.int .i64 x.nodes, .int .i64 x.now, .int .i64 x.next, .slice AW x.way.length cW, .slice AC x.cuts.length cC, .slice AT x.timers.length cT] 26 (0, 0))) ∧ Hid (NetO wr w.heap.size (.agg #[.int .i64 x.nodes, .int .i64 x.now, .int .i64 x.next, .slice AW x.way.length cW, .slice AC x.cuts.length cC, .slice AT x.timers.length cT]) x) ∧ Hid (wr.heap[w.heap.size]? = some (.cells #[.int .i64 0, .int .i64 0, .int .i64 0, .slice none 0 0, .slice none 0 0, .slice none 0 0] 26 (0, 0))) ∧ Hid (Below w.heap.size w wr))
  case atStart =>
    refine ⟨0, [], none, 0, none, 0, none, 0, x0, Nat.zero_le _, by omega, rfl, ?_, ?_, ?_, ?_, ?_, ?_, ?_⟩
    · show x0 = playX x0 []; rfl
    · exact Own.nil _ _ _
    · exact SnsO.nil _ _
    · show _ = _; rw [HXE.out]; exact HN1.out
    · show NetO _ _ _ _; rw [HXE.out]; exact ⟨none, 0, none, 0, none, 0, rfl, Own.nil _ _ _, Own.nil _ _ _, Own.nil _ _ _⟩
    · exact HZ1.out
    · exact HB2.out
  case round =>
    clear HB2 HZ1 HN1 HN
    obtain ⟨k, rs, AW, cW, AC, cC, AT, cT, x, hk, hkx, rfl, HX, HO, HS, HBN, HV, HZ, HB⟩ := hrel
    have hxk : Ok x := by rw [HX.out]; exact play_keeps _ HX0.out
    have hzw := bl_lt HZ.out
    have hnw := bl_lt HBN.out
    have hw := HB.out.size
    obtain ⟨⟨k0, k1, k2, k3, k4, k5⟩, f0, f1, f2, f3, f4, f5⟩ := blc6 HBN.out
    have HXK := Lib.hid hxk
    have xw := hxk.way
    have xc := hxk.cuts256
    have xt := hxk.tms
    clear hxk
    by_cases hlt : k < acts.length
    · obtain ⟨b, off, a, rfl, hak, c0, c1, c2, c3, c4⟩ := (HR.out.below HB.out).ac k hlt
      have hbt : b < wr.heap.size := World.block_lt_of_cell? wr _ c0
      obtain ⟨y, hy⟩ : ∃ y, y = doXR x a := ⟨_, rfl⟩
      obtain ⟨s, hs⟩ : ∃ s, s = doSR x a := ⟨_, rfl⟩
      have hdo := fun (v : Value) (w : World) => Do_any x a v w (by omega) (by omega) (by omega)
      unfold doQ at hdo
      rw [← hy, ← hs] at hdo
      have HDO := Lib.hid hdo
      have HY := Lib.hid hy
      have HS' := Lib.hid hs
      clear hdo hy hs
      go_wp2_with (first | (go_at_call 19; refine (HDO.out _ _ (HV.out.netV.below (below_alloc (below_alloc (Below.refl _ _) _) _))).mono ?_; rintro e wd ⟨v', u, rfl, hU, hV', hbd⟩; obtain ⟨AU, cU, rfl, -, -⟩ := hU.slice; obtain ⟨AW3, cW3, AC3, cC3, AT3, cT3, rfl, rW3, rC3, rT3⟩ := hV'; have HV3 : Hid (NetO wd ((wr.alloc (.cells #[.int .i64 a.k, .int .i64 a.a, .int .i64 a.b, .int .i64 a.n, .string a.data] 50)).alloc (.cells #[.int .i64 0, .int .i64 0, .int .i64 0, .int .i64 0, .string ⟨#[]⟩, .int .i64 0, .int .i64 0, .int .i64 0, .int .i64 0, .int .i64 0, .int .i64 0, .string ⟨#[]⟩, .slice none 0 0] 52)).heap.size (.agg #[.int .i64 y.nodes, .int .i64 y.now, .int .i64 y.next, .slice AW3 y.way.length cW3, .slice AC3 y.cuts.length cC3, .slice AT3 y.timers.length cT3]) y) := ⟨AW3, cW3, AC3, cC3, AT3, cT3, rfl, rW3, rC3, rT3⟩; have HU := Lib.hid hU; have HBD := Lib.hid hbd; have hbn := bl_below (bl_alloc (bl_alloc HBN.out (.cells #[.int .i64 a.k, .int .i64 a.a, .int .i64 a.b, .int .i64 a.n, .string a.data] 50)) (.cells #[.int .i64 0, .int .i64 0, .int .i64 0, .int .i64 0, .string ⟨#[]⟩, .int .i64 0, .int .i64 0, .int .i64 0, .int .i64 0, .int .i64 0, .int .i64 0, .string ⟨#[]⟩, .slice none 0 0] 52)) hbd; have hb12 := bl_below (bl_new (wr.alloc (.cells #[.int .i64 a.k, .int .i64 a.a, .int .i64 a.b, .int .i64 a.n, .string a.data] 50)) (.cells #[.int .i64 0, .int .i64 0, .int .i64 0, .int .i64 0, .string ⟨#[]⟩, .int .i64 0, .int .i64 0, .int .i64 0, .int .i64 0, .int .i64 0, .int .i64 0, .string ⟨#[]⟩, .slice none 0 0] 52)) hbd; simp only [World.size_alloc] at hb12; clear rW3 rC3 rT3 hU hbd k0 k1 k2 k3 k4 k5 f0 f1 f2 f3 f4 f5 c0 c1 c2 c3 c4; obtain ⟨⟨k0, k1, k2, k3, k4, k5⟩, f0, f1, f2, f3, f4, f5⟩ := blc6 hbn; obtain ⟨⟨d0, d1, d2, d3, d4, d5, d6, d7, d8, d9, d10, d11, d12⟩, e0, e1, e2, e3, e4, e5, e6, e7, e8, e9, e10, e11, e12⟩ := blc13 hb12; have ln := bl_lt hbn; have l12 := bl_lt hb12; have x1 : ¬ bn = wr.heap.size + 1 := (by omega); have x2 : ¬ wr.heap.size + 1 = bn := (by omega)) | (at_builtin; refine hid_stop ?_))
      obtain ⟨Wq, hWq⟩ : ∃ Wq, Wq = put13 ((((((wd.setCell ⟨bn, 0, none⟩ (.int .i64 y.nodes)).setCell ⟨bn, 1, none⟩ (.int .i64 y.now)).setCell ⟨bn, 2, none⟩ (.int .i64 y.next)).setCell ⟨bn, 3, none⟩ (.slice AW3 y.way.length cW3)).setCell ⟨bn, 4, none⟩ (.slice AC3 y.cuts.length cC3)).setCell ⟨bn, 5, none⟩ (.slice AT3 y.timers.length cT3)) (wr.heap.size + 1) (.int .i64 s.a.k) (.int .i64 s.a.a) (.int .i64 s.a.b) (.int .i64 s.a.n) (.string s.a.data) (.int .i64 s.e) (.int .i64 s.now) (.int .i64 s.l.id) (.int .i64 s.l.fr) (.int .i64 s.l.to) (.int .i64 s.l.rd) (.string s.l.data) (.slice AU s.ts.length cU) := ⟨_, rfl⟩
      have hB1 : Below wr.heap.size wr wd := ((below_alloc (below_alloc (Below.refl _ _) _) _).trans (HBD.out.mono (by simp; omega)))
      have hqs : Wq.heap.size = wd.heap.size := by rw [hWq, put13_size]; simp [World.setCell]
      have hqn : Wq.heap[bn]? = some (.cells #[.int .i64 y.nodes, .int .i64 y.now, .int .i64 y.next, .slice AW3 y.way.length cW3, .slice AC3 y.cuts.length cC3, .slice AT3 y.timers.length cT3] 26 (0, 0)) := by rw [hWq]; exact put13_far (bl_all6 hbn _ _ _ _ _ _) (by omega)
      have hqz : Wq.heap[w.heap.size]? = some (.cells #[.int .i64 0, .int .i64 0, .int .i64 0, .slice none 0 0, .slice none 0 0, .slice none 0 0] 26 (0, 0)) := by rw [hWq]; exact put13_far (bl_far6 (bl_below HZ.out hB1) (by omega) _ _ _ _ _ _) (by omega)
      have hqB : Below w.heap.size w Wq := by rw [hWq]; exact put13_below (below_set6 (HB.out.trans (hB1.mono hw)) (by omega) _ _ _ _ _ _) (by omega)
      have hb12n : (((((((wd.setCell ⟨bn, 0, none⟩ (.int .i64 y.nodes)).setCell ⟨bn, 1, none⟩ (.int .i64 y.now)).setCell ⟨bn, 2, none⟩ (.int .i64 y.next)).setCell ⟨bn, 3, none⟩ (.slice AW3 y.way.length cW3)).setCell ⟨bn, 4, none⟩ (.slice AC3 y.cuts.length cC3)).setCell ⟨bn, 5, none⟩ (.slice AT3 y.timers.length cT3))).heap[wr.heap.size + 1]? = some (.cells #[.int .i64 0, .int .i64 0, .int .i64 0, .int .i64 0, .string ⟨#[]⟩, .int .i64 0, .int .i64 0, .int .i64 0, .int .i64 0, .int .i64 0, .int .i64 0, .string ⟨#[]⟩, .slice none 0 0] 52 (0, 0)) := bl_far6 hb12 (by omega) _ _ _ _ _ _
      have hqO : Own Wq w.heap.size 52 u9 rs := by
        rw [hWq]
        refine put13_own ?_ (fun h => by have := (HO.out.lt _ h).2; omega)
        have h1 := HO.out.below hB1
        have hne := h1.ne hbn (by decide)
        repeat (refine Own.setCell ?_ (by exact hne) _)
        exact h1
      have hqU : Own Wq w.heap.size 86 (.slice AU s.ts.length cU) s.ts := by
        rw [hWq]
        have h1 := HU.out.weaken (B' := w.heap.size) (by simp; omega)
        refine put13_own ?_ ?_
        · have hne := h1.ne hbn (by decide)
          repeat (refine Own.setCell ?_ (by exact hne) _)
          exact h1
        · exact h1.ne hb12 (by decide)
      have hqS : SnsO Wq w.heap.size rs (playS x0 (acts.take k)) := by
        rw [hWq]
        refine ⟨HS.out.1, fun i r' s' hr hs => ?_⟩
        obtain ⟨g1, g2, g3, g4, g5, g6⟩ := HS.out.2 i r' s' hr hs
        refine ⟨g1, g2, g3, g4, g5, ?_⟩
        have g7 := g6.below hB1
        refine put13_own ?_ (g7.ne hb12 (by decide))
        have hne := g7.ne hbn (by decide)
        repeat (refine Own.setCell ?_ (by exact hne) _)
        exact g7
      have hqV : NetO Wq w.heap.size (.agg #[.int .i64 y.nodes, .int .i64 y.now, .int .i64 y.next, .slice AW3 y.way.length cW3, .slice AC3 y.cuts.length cC3, .slice AT3 y.timers.length cT3]) y := by
        rw [hWq]
        have h1 : NetO wd w.heap.size (.agg #[.int .i64 y.nodes, .int .i64 y.now, .int .i64 y.next, .slice AW3 y.way.length cW3, .slice AC3 y.cuts.length cC3, .slice AT3 y.timers.length cT3]) y := HV3.out.weaken (by simp; omega)
        have h2 : NetO ((((((wd.setCell ⟨bn, 0, none⟩ (.int .i64 y.nodes)).setCell ⟨bn, 1, none⟩ (.int .i64 y.now)).setCell ⟨bn, 2, none⟩ (.int .i64 y.next)).setCell ⟨bn, 3, none⟩ (.slice AW3 y.way.length cW3)).setCell ⟨bn, 4, none⟩ (.slice AC3 y.cuts.length cC3)).setCell ⟨bn, 5, none⟩ (.slice AT3 y.timers.length cT3)) w.heap.size (.agg #[.int .i64 y.nodes, .int .i64 y.now, .int .i64 y.next, .slice AW3 y.way.length cW3, .slice AC3 y.cuts.length cC3, .slice AT3 y.timers.length cT3]) y := by
          obtain ⟨A1, c1, A2, c2, A3, c3, e', oW, oC, oT⟩ := h1
          have n1 := oW.ne hbn (by decide)
          have n2 := oC.ne hbn (by decide)
          have n3 := oT.ne hbn (by decide)
          refine ⟨A1, c1, A2, c2, A3, c3, e', ?_, ?_, ?_⟩
          · repeat (refine Own.setCell ?_ (by exact n1) _)
            exact oW
          · repeat (refine Own.setCell ?_ (by exact n2) _)
            exact oC
          · repeat (refine Own.setCell ?_ (by exact n3) _)
            exact oT
        obtain ⟨A1, c1, A2, c2, A3, c3, e', oW, oC, oT⟩ := h2
        exact ⟨A1, c1, A2, c2, A3, c3, e', put13_own oW (oW.ne hb12n (by decide)), put13_own oC (oC.ne hb12n (by decide)), put13_own oT (oT.ne hb12n (by decide))⟩
      clear k0 k1 k2 k3 k4 k5 f0 f1 f2 f3 f4 f5 d0 d1 d2 d3 d4 d5 d6 d7 d8 d9 d10 d11 d12 e0 e1 e2 e3 e4 e5 e6 e7 e8 e9 e10 e11 e12 HO HS HBN HV HZ HB HU HBD HV3 hbn hb12 hb12n hB1
      change wpList _ _ _ _ _ ((put13 ((((((wd.setCell ⟨bn, 0, none⟩ (.int .i64 y.nodes)).setCell ⟨bn, 1, none⟩ (.int .i64 y.now)).setCell ⟨bn, 2, none⟩ (.int .i64 y.next)).setCell ⟨bn, 3, none⟩ (.slice AW3 y.way.length cW3)).setCell ⟨bn, 4, none⟩ (.slice AC3 y.cuts.length cC3)).setCell ⟨bn, 5, none⟩ (.slice AT3 y.timers.length cT3)) (wr.heap.size + 1) (.int .i64 s.a.k) (.int .i64 s.a.a) (.int .i64 s.a.b) (.int .i64 s.a.n) (.string s.a.data) (.int .i64 s.e) (.int .i64 s.now) (.int .i64 s.l.id) (.int .i64 s.l.fr) (.int .i64 s.l.to) (.int .i64 s.l.rd) (.string s.l.data) (.slice AU s.ts.length cU)).alloc _)
      rw [← hWq]
      clear hWq
      refine wpList_app (Wq.alloc (.cells #[.int .i64 s.a.k, .int .i64 s.a.a, .int .i64 s.a.b, .int .i64 s.a.n, .string s.a.data, .int .i64 s.e, .int .i64 s.now, .int .i64 s.l.id, .int .i64 s.l.fr, .int .i64 s.l.to, .int .i64 s.l.rd, .string s.l.data, .slice AU s.ts.length cU] 52)) w.heap.size rfl (.tmp 35) (.tmp 37) 47 52 _ 136 rfl Tryz.underlying47 infoS rfl (by decide) (by decide) u9 rs [(⟨s.a, s.e, s.now, s.l, AU, s.ts.length, cU⟩ : SnR)] (some ⟨wd.heap.size, 0, none⟩) 1 rfl rfl ?hO ?hR ?hB ?hL ?_
      case hO => exact hqO.alloc _
      case hR =>
        have h := Rd.new Wq 52 (⟨s.a, s.e, s.now, s.l, AU, s.ts.length, cU⟩ : SnR) #[.int .i64 s.a.k, .int .i64 s.a.a, .int .i64 s.a.b, .int .i64 s.a.n, .string s.a.data, .int .i64 s.e, .int .i64 s.now, .int .i64 s.l.id, .int .i64 s.l.fr, .int .i64 s.l.to, .int .i64 s.l.rd, .string s.l.data, .slice AU s.ts.length cU] rfl
        rw [hqs] at h
        exact h
      case hB => have := hqB.size; simp; omega
      case hL =>
        have h1 := hqS.1
        rw [playS_length, List.length_take] at h1
        simp; omega
      intro v1 w6 ho hg hat
      have hgq : Wq.grownBy w6 (u9 : Value).ownBlock := grown_of_alloc hg
      have hqS' : SnsO Wq w.heap.size (rs ++ [(⟨s.a, s.e, s.now, s.l, AU, s.ts.length, cU⟩ : SnR)]) (playS x0 (acts.take (k + 1))) := by
        have e : acts.take (k + 1) = acts.take k ++ [a] := by rw [List.take_add_one, hak.out]; rfl
        rw [e, playS_snoc, ← HX.out, ← HS'.out]
        exact hqS.snoc ⟨rfl, rfl, rfl, rfl, rfl, hqU⟩
      have hXY : y = playX x0 (acts.take (k + 1)) := by
        have e : acts.take (k + 1) = acts.take k ++ [a] := by rw [List.take_add_one, hak.out]; rfl
        rw [e, playX_snoc, ← HX.out, ← HY.out]
      have hF1 := Lib.hid (hqS'.kept hqO (by decide) hgq)
      have hF2 := Lib.hid (hqV.kept hqO hgq (by decide) (by decide) (by decide))
      have hF3 := Lib.hid (bl_grown hqn hgq (fun h => hqO.ne hqn (by decide) h.symm))
      have hF4 := Lib.hid (bl_grown hqz hgq (fun h => hqO.ne hqz (by decide) h.symm))
      have hF5 : Hid (Below w.heap.size w w6) := hqB.grown hgq hqB.size (fun k hk => (hqO.lt k hk).1)
      have hF6 := Lib.hid ho
      have hF7 := Lib.hid hXY
      clear hqS hqS' hqO hqU hqV hqn hqz hgq hg ho hXY hat hqs
      go_wp2
      go_roundg (acts.length - (k + 1))
      case measure => omega
      case rel => exact ⟨k + 1, _, AW3, cW3, AC3, cC3, AT3, cT3, y, by omega, Nat.le_refl _, by go_num, hF7.out, hF6.out, hF1.out, hF3.out, hF2.out, hF4.out, hF5.out⟩
    · have hkl : k = acts.length := by omega
      have HKL := Lib.hid hkl
      clear hkl
      have hzz := HZ.out
      obtain ⟨⟨z0, z1, z2, z3, z4, z5⟩, g0, g1, g2, g3, g4, g5⟩ := blc6 hzz
      go_wp2
      have htk : acts.take k = acts := by rw [HKL.out, List.take_length]
      have hxe := HX.out
      have hse := HS.out
      rw [htk] at hxe hse
      have hno := HO.out.ne hzz (by decide)
      refine ret_ctt Tryz.results22 w.heap.size 26 #[.int .i64 x.nodes, .int .i64 x.now, .int .i64 x.next, .slice AW x.way.length cW, .slice AC x.cuts.length cC, .slice AT x.timers.length cT] _ rfl (bl_all6 hzz _ _ _ _ _ _) Tryz.underlying26 rfl sizeNet rfl ⟨_, _, rs, rfl, ?_, ?_, ?_, below_set6 HB.out (Nat.le_refl _) _ _ _ _ _ _⟩
      · rw [← hxe]
        obtain ⟨A1, c1, A2, c2, A3, c3, e', oW, oC, oT⟩ := HV.out
        have n1 := oW.ne hzz (by decide)
        have n2 := oC.ne hzz (by decide)
        have n3 := oT.ne hzz (by decide)
        refine ⟨A1, c1, A2, c2, A3, c3, e', ?_, ?_, ?_⟩
        · repeat (refine Own.setCell ?_ (by exact n1) _)
          exact oW
        · repeat (refine Own.setCell ?_ (by exact n2) _)
          exact oC
        · repeat (refine Own.setCell ?_ (by exact n3) _)
          exact oT
      · repeat (refine Own.setCell ?_ (by exact hno) _)
        exact HO.out
      · refine ⟨hse.1, fun i r' s' hr hs => ?_⟩
        obtain ⟨q1, q2, q3, q4, q5, q6⟩ := hse.2 i r' s' hr hs
        refine ⟨q1, q2, q3, q4, q5, ?_⟩
        have hne := q6.ne hzz (by decide)
        repeat (refine Own.setCell ?_ (by exact hne) _)
        exact q6
end Go.Proofs.YthlbmcfliejdiaaGreat
end
