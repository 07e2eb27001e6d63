/- append at a step of a region that draws; what goes with it. The reference's has, the drawn regions that append, without. (Printed by wip/gen_refl.py.). The reference's without, Send, Deliver, Lose, Double, Delay. (Printed by wip/gen_refl2.py.). The reference's Send, Double, Delay. (Printed by wip/gen_refl3.py.). The law NetLetters: it returns true. (Printed by wip/gen_lawn.py.). -/
import Derived.Test.YthlbmcfliejdiaaGreatGj
import Derived.Deep.RegionHeld3
import Derived.Test.YthlbmcfliejdiaaGreatGk
import Derived.Deep.RegionLaw
import Derived.Test.YthlbmcfliejdiaaGreatGl
import Derived.Deep.DeepCutAuto
section
set_option linter.unusedVariables false
set_option linter.unusedSimpArgs false
namespace Go.Proofs.YthlbmcfliejdiaaGreat
open Go.RowKit

theorem Rd.take {α : Type} [Enc α] {w : World} {A : Option Addr} {xs : List α} (h : Rd w A xs) (m : Nat) : Rd w A (xs.take m) := by
  intro i hi
  have hi2 : i < xs.length := by rw [List.length_take] at hi; omega
  obtain ⟨b, off, e, hc⟩ := h i hi2
  refine ⟨b, off, e, fun k v hk => hc k v ?_⟩
  rw [List.getElem_take] at hk
  exact hk
theorem Rd.dropAt {α : Type} [Enc α] {w : World} {b off : Nat} {xs : List α} (h : Rd w (some ⟨b, off, none⟩) xs) (m : Nat) : Rd w (some ⟨b, off + m * Enc.sz α, none⟩) (xs.drop m) := by
  intro i hi
  have hi2 : m + i < xs.length := by rw [List.length_drop] at hi; omega
  obtain ⟨b', off', e, hc⟩ := h (m + i) hi2
  cases e
  refine ⟨b, off + m * Enc.sz α, rfl, fun k v hk => ?_⟩
  rw [List.getElem_drop] at hk
  have := hc k v hk
  rw [Nat.add_mul] at this
  rw [show off + m * Enc.sz α + i * Enc.sz α + k = off + (m * Enc.sz α + i * Enc.sz α) + k by omega]
  exact this
/-- A new row of no elements is one's own. -/
theorem Own.fresh {α : Type} [Enc α] (w : World) (B : Nat) (e : TypeId) (H : Nat) (hH : w.heap.size = H) (hB : B ≤ H) : Own (w.alloc (.cells #[] e)) B e (.slice (some ⟨H, 0, none⟩) 0 0) ([] : List α) := by
  subst hH
  exact ⟨by simp [flat], .inr ⟨w.heap.size, 0, #[], rfl, hB, bl_new w _, Nat.le_refl _, by simp [maxLen], by simp, by simp [flat]⟩⟩
theorem Rd.blk {α : Type} [Enc α] {w : World} {g : Nat} {e : TypeId} {fr : Nat × Nat} {cs : Array Value} (x : α) (hg : w.heap[g]? = some (.cells cs e fr)) (h : cs.toList = Enc.enc x) : Rd w (some ⟨g, 0, none⟩) [x] := by
  refine Rd.of_cells fun j u hj => ?_
  rw [flat_sing, ← h] at hj
  rw [bl_cell hg, Nat.zero_add]
  simpa using hj
/-- append at a step of a region that draws. -/
theorem step_app {α : Type} [Enc α] {P : Program} {ops : Array Oper} {o : Oper} {a : Act} {K : Act → World → Prop} {Q : Exit → Act → World → Prop} {E : Prop} (W : World) (base : Nat) (hgd : o.guard = none) (s x : Operand) (t e : TypeId) (z : Value) (bytes : Nat)
    (ho : o.op = .call { callee := .builtin .append, args := #[s, x], argTypes := #[t, t] })
    (ht : P.underlying t = some (.slice e)) (hinfo : (P.info? e).map (fun i => (i.zero, i.size, i.bytes)) = some (some z, Enc.sz α, bytes)) (hz : z.cells.size = Enc.sz α) (hs0 : 0 < Enc.sz α) (hb0 : 0 < bytes)
    (v : Value) (xs ys : List α) (A : Option Addr) (c : Nat) (hs : a.eval s = v) (hx : a.eval x = .slice A ys.length c) (hbase : base ≤ W.heap.size) (HO : Own W base e v xs) (HR : Rd W A ys) (hl : (xs.length + ys.length) * bytes ≤ 140737488355328)
    (h : ∀ v1 w1, Own w1 base e v1 (xs ++ ys) → Below base W w1 → W.grownBy w1 v.ownBlock → K (a.put o.dst v1) w1) :
    if Region.wanted o (yielded ops a.tmps) = true then Oper.wp P o a W K Q else E := by
  obtain ⟨v1, w1, hr, h1, h2, h3⟩ := run_app (P := P) W base t o.type e z bytes ht hinfo hz hs0 hb0 v xs ys A c HO HR hbase hl
  have hw : Region.wanted o (yielded ops a.tmps) = true := by simp [Region.wanted, hgd]
  rw [if_pos hw]
  unfold Oper.wp execOp
  simp only [ho, resolve, invoke, builtin, Sem.run_bind, Sem.run_pure, Result.andThen_ok, List.map_toArray, List.map_cons, List.map_nil, hs, hx, hr]
  exact h v1 w1 h1 ((Below.refl base W).grown h2 hbase (fun k hk => (HO.lt k hk).1)) h2
/-- A region of a code, by its number. -/
def regR (n : Nat) : Code → Option Code
  | .region k ops d => if k = n then some (.region k ops d) else none
  | .loop c => regR n c
  | .seq a b => match regR n a with
    | some c => some c
    | none => regR n b
  | .block _ c => regR n c
  | .scope c => regR n c
  | .cond _ a b => match regR n a with
    | some c => some c
    | none => regR n b
  | _ => none
/-- What the new row and its store leave. -/
theorem put_end {α : Type} [Enc α] {W w2 : World} {g : Nat} {e t : TypeId} {fr : Nat × Nat} {u c0 c1 c2 c3 c4 c5 : Value} {ys : List α} (hb : Below W.heap.size W w2) (ho : Own w2 W.heap.size e u ys) (HG : W.heap[g]? = some (.cells #[c0, c1, c2, c3, c4, c5] t fr)) :
    Own (w2.setCell ⟨g, 3, none⟩ u) W.heap.size e u ys ∧ (w2.setCell ⟨g, 3, none⟩ u).heap[g]? = some (.cells #[c0, c1, c2, u, c4, c5] t fr) ∧ Below g W (w2.setCell ⟨g, 3, none⟩ u) ∧ (∀ k o, k ≠ g → W.heap[k]? = some o → (w2.setCell ⟨g, 3, none⟩ u).heap[k]? = some o) := by
  have hlt := bl_lt HG
  refine ⟨ho.far (p := ⟨g, 3, none⟩) hlt _, by simpa using bl_set (bl_below HG hb) 3 u, (hb.mono (Nat.le_of_lt hlt)).setCell (Nat.le_refl _) _, fun k o hne hk => bl_far (bl_below hk hb) hne _⟩
end Go.Proofs.YthlbmcfliejdiaaGreat
end

section
set_option linter.unusedVariables false
set_option linter.unusedSimpArgs false
namespace Go.Proofs.YthlbmcfliejdiaaGreat
open Go.RowKit

/-- A network whose letters' row is no longer than its room. -/
def NetC (w : World) (v : Value) (x : Nt) : Prop := ∃ AW cW AC cC AT cT, v = .agg #[.int .i64 x.nodes, .int .i64 x.now, .int .i64 x.next, .slice AW x.way.length cW, .slice AC x.cuts.length cC, .slice AT x.timers.length cT] ∧ Rd w AW x.way ∧ Rd w AC x.cuts ∧ Rd w AT x.timers ∧ x.way.length ≤ cW
theorem own_far6w {α : Type} [Enc α] {w : World} {B b : Nat} {e : TypeId} {v : Value} {xs : List α} (h : Own w B e v xs) (hp : b < B) (a0 a1 a2 a3 a4 a5 : Value) :
    Own ((((((w.setCell ⟨b, 0, none⟩ a0).setCell ⟨b, 1, none⟩ a1).setCell ⟨b, 2, none⟩ a2).setCell ⟨b, 3, none⟩ a3).setCell ⟨b, 4, none⟩ a4).setCell ⟨b, 5, none⟩ a5) B e v xs :=
  (((((h.far (p := ⟨b, 0, none⟩) hp _).far (p := ⟨b, 1, none⟩) hp _).far (p := ⟨b, 2, none⟩) hp _).far (p := ⟨b, 3, none⟩) hp _).far (p := ⟨b, 4, none⟩) hp _).far (p := ⟨b, 5, none⟩) hp _
/-- All blocks from B on that stood are as they were. -/
def Abv (B : Nat) (w' W : World) : Prop := w'.heap.size ≤ W.heap.size ∧ ∀ k, B ≤ k → k < w'.heap.size → W.heap[k]? = w'.heap[k]?
theorem Own.abv {α : Type} [Enc α] {w W : World} {B B' : Nat} {e : TypeId} {v : Value} {xs : List α} (h : Own w B' e v xs) (hB : B ≤ B') (hA : Abv B w W) : Own W B' e v xs := by
  refine ⟨h.1, ?_⟩
  rcases h.2 with h0 | ⟨g, cap, cur, hv, hb, hg, hr⟩
  · exact .inl h0
  · exact .inr ⟨g, cap, cur, hv, hb, (hA.2 g (Nat.le_trans hB hb) (bl_lt hg)).trans hg, hr⟩
theorem own_row {α : Type} [Enc α] {w : World} {B : Nat} {e : TypeId} {v : Value} {xs : List α} (h : Own w B e v xs) (hx : 0 < xs.length) : ∃ g cap, v = .slice (some ⟨g, 0, none⟩) xs.length cap := by
  rcases h.2 with ⟨_, h0⟩ | ⟨g, cap, cur, rfl, _⟩
  · omega
  · exact ⟨g, cap, rfl⟩
set_option maxHeartbeats 400000 in
theorem Rhas_any (x : Nt) (i : Int) (v : Value) (w : World) (hV : NetV w v x) : Calls Tryz.prog 43 #[v, .int .i64 i] w fun e w' => e = .returned (.bool (hasB x.way.length i)) ∧ Below w.heap.size w w' := by
  obtain ⟨AW, cW, AC, cC, AT, cT, rfl, hW, hC, hT⟩ := hV
  clear hW hC hT
  by_cases h : 0 ≤ i
  · go_enter Tryz.func43, Tryz.ntmps43
    go_wp2
    go_ret
    exact ⟨ret_bool (by simp [hasB, *]), below_alloc (Below.refl _ _) _⟩
  · go_enter Tryz.func43, Tryz.ntmps43
    go_wp2
    go_ret
    exact ⟨ret_bool (by simp [hasB, *]; omega), below_alloc (Below.refl _ _) _⟩
noncomputable def regSend : Code := ((Tryz.f8.body.bind (regR 10)).getD .skip)
set_option maxHeartbeats 4000000 in
set_option maxRecDepth 100000 in
theorem putSend (x : Nt) (f : Nat → Value) (W : World) (g : Nat) (AW AC AT : Option Addr) (cW cC cT : Nat) (gl : Nat) (l : Lt) (v8 : Value) (K : Act → World → Prop) (Q : Exit → Act → World → Prop)
    (h8 : f 8 = v8) (hn : f 4 = .pointer (some ⟨g, 0, none⟩)) (hlt : f 9 = .pointer (some ⟨gl, 0, none⟩))
    (HG : Hid (W.heap[g]? = some (.cells #[.int .i64 x.nodes, .int .i64 x.now, .int .i64 x.next, .slice AW x.way.length cW, .slice AC x.cuts.length cC, .slice AT x.timers.length cT] 26 (0, 0)))) (HGL : Hid (W.heap[gl]? = some (.cells #[.int .i64 l.id, .int .i64 l.fr, .int .i64 l.to, .int .i64 l.rd, .string l.data] 33 (0, 0)))) (hgl : ¬ gl = g) (HR : Hid (Rd W AW x.way)) (hlen : x.way.length ≤ 10000000)
    (hK : ∀ a w', (∃ f' u, a = st 73 f' ∧ f' 4 = .pointer (some ⟨g, 0, none⟩) ∧ f' 8 = v8 ∧ f' 9 = .pointer (some ⟨gl, 0, none⟩) ∧ Hid (Own w' W.heap.size 33 u (x.way ++ [l])) ∧ Hid (w'.heap[g]? = some (.cells #[.int .i64 x.nodes, .int .i64 x.now, .int .i64 x.next, u, .slice AC x.cuts.length cC, .slice AT x.timers.length cT] 26 (0, 0))) ∧ Hid (Below g W w') ∧ Hid (∀ k o, k ≠ g → W.heap[k]? = some o → w'.heap[k]? = some o)) → K a w') :
    regSend.wp Tryz.prog (Exit.then K Q) (st 73 f) W := by
  conv => arg 2; whnf
  have HRT : Hid (∀ w', Below W.heap.size W w' → Rd w' AW x.way) := fun w' hb => HR.out.below hb
  have HL : Hid ((0 + x.way.length) * 48 ≤ 140737488355328) := by show _ ≤ _; omega
  have HL1 : Hid ((x.way.length + 1) * 48 ≤ 140737488355328) := by show _ ≤ _; omega
  obtain ⟨⟨p0, p1, p2, p3, p4⟩, -⟩ := blc5 HGL.out
  have hlp := bl_lt HGL.out
  have HK := Lib.hid hK
  obtain ⟨⟨k0, k1, k2, k3, k4, k5⟩, f0, f1, f2, f3, f4, f5⟩ := blc6 HG.out
  have hlg := bl_lt HG.out
  rw [show st 73 f = ⟨#[f 0, f 1, f 2, f 3, f 4, f 5, f 6, f 7, f 8, f 9, f 10, f 11, f 12, f 13, f 14, f 15, f 16, f 17, f 18, f 19, f 20, f 21, f 22, f 23, f 24, f 25, f 26, f 27, f 28, f 29, f 30, f 31, f 32, f 33, f 34, f 35, f 36, f 37, f 38, f 39, f 40, f 41, f 42, f 43, f 44, f 45, f 46, f 47, f 48, f 49, f 50, f 51, f 52, f 53, f 54, f 55, f 56, f 57, f 58, f 59, f 60, f 61, f 62, f 63, f 64, f 65, f 66, f 67, f 68, f 69, f 70, f 71, f 72], []⟩ by rfl, h8, hn, hlt]
  clear hK hlen h8 hn hlt
  refine wp_region_noPanic ?_
  go_region_law
    ((first
      | ((refine step_app (α := Lt) _ W.heap.size rfl (.tmp 56) (.tmp 58) 22 33 _ 48 (by rfl) Tryz.underlying22 infoW rfl (by decide) (by decide) (.slice (some ⟨W.heap.size, 0, none⟩) 0 0) [] x.way AW cW (by rfl) (by rfl) (Below.size (B := W.heap.size) (by (repeat (first | (with_reducible assumption) | (with_reducible exact Below.refl _ _) | (with_reducible refine below_alloc ?_ _) | (with_reducible refine Below.drew ?_))))) (Own.fresh W _ _ _ rfl (Nat.le_refl _)) (HRT.out _ (by (repeat (first | (with_reducible assumption) | (with_reducible exact Below.refl _ _) | (with_reducible refine below_alloc ?_ _) | (with_reducible refine Below.drew ?_))))) (by exact HL.out) ?_); (intro v1 w1 ho1 hb1 hg1); (have hW1 : Below W.heap.size W w1 := Below.trans (B := W.heap.size) (by (repeat (first | (with_reducible assumption) | (with_reducible exact Below.refl _ _) | (with_reducible refine below_alloc ?_ _) | (with_reducible refine Below.drew ?_)))) hb1); (obtain ⟨⟨p01, p11, p21, p31, p41⟩, -⟩ := blc5 (bl_below HGL.out hW1)); (have hlp1 := bl_lt (bl_below HGL.out hW1)))
      | ((refine step_app (α := Lt) _ W.heap.size rfl (.tmp 56) (.tmp 58) 22 33 _ 48 (by rfl) Tryz.underlying22 infoW rfl (by decide) (by decide) (.slice (some ⟨W.heap.size, 0, none⟩) 0 0) [] x.way AW cW (by rfl) (by rfl) (Below.size (B := W.heap.size) (by (repeat (first | (with_reducible assumption) | (with_reducible exact Below.refl _ _) | (with_reducible refine below_alloc ?_ _) | (with_reducible refine Below.drew ?_))))) ((Own.fresh W _ _ _ rfl (Nat.le_refl _)).alloc _) (HRT.out _ (by (repeat (first | (with_reducible assumption) | (with_reducible exact Below.refl _ _) | (with_reducible refine below_alloc ?_ _) | (with_reducible refine Below.drew ?_))))) (by exact HL.out) ?_); (intro v1 w1 ho1 hb1 hg1); (have hW1 : Below W.heap.size W w1 := Below.trans (B := W.heap.size) (by (repeat (first | (with_reducible assumption) | (with_reducible exact Below.refl _ _) | (with_reducible refine below_alloc ?_ _) | (with_reducible refine Below.drew ?_)))) hb1); (obtain ⟨⟨p01, p11, p21, p31, p41⟩, -⟩ := blc5 (bl_below HGL.out hW1)); (have hlp1 := bl_lt (bl_below HGL.out hW1)); (have hR6 : Rd w1 (some ⟨W.heap.size + 1, 0, none⟩) [l] := Rd.blk l (bl_grown (o := .cells #[.int .i64 l.id, .int .i64 l.fr, .int .i64 l.to, .int .i64 l.rd, .string l.data] 33) (bl_drew (bl_new2 W (.cells #[] 33) _)) hg1 (by simp [Value.ownBlock])) rfl))
      | ((refine step_app (α := Lt) _ W.heap.size rfl (.tmp 56) (.tmp 58) 22 33 _ 48 (by rfl) Tryz.underlying22 infoW rfl (by decide) (by decide) (.slice (some ⟨W.heap.size + 1, 0, none⟩) 0 0) [] x.way AW cW (by rfl) (by rfl) (Below.size (B := W.heap.size) (by (repeat (first | (with_reducible assumption) | (with_reducible exact Below.refl _ _) | (with_reducible refine below_alloc ?_ _) | (with_reducible refine Below.drew ?_))))) (Own.fresh (W.alloc (.cells #[.int .i64 l.id, .int .i64 l.fr, .int .i64 l.to, .int .i64 l.rd, .string l.data] 33)) _ _ _ (by simp) (Nat.le_succ _)) (HRT.out _ (by (repeat (first | (with_reducible assumption) | (with_reducible exact Below.refl _ _) | (with_reducible refine below_alloc ?_ _) | (with_reducible refine Below.drew ?_))))) (by exact HL.out) ?_); (intro v1 w1 ho1 hb1 hg1); (have hW1 : Below W.heap.size W w1 := Below.trans (B := W.heap.size) (by (repeat (first | (with_reducible assumption) | (with_reducible exact Below.refl _ _) | (with_reducible refine below_alloc ?_ _) | (with_reducible refine Below.drew ?_)))) hb1); (obtain ⟨⟨p01, p11, p21, p31, p41⟩, -⟩ := blc5 (bl_below HGL.out hW1)); (have hlp1 := bl_lt (bl_below HGL.out hW1)); (have hR6 : Rd w1 (some ⟨W.heap.size, 0, none⟩) [l] := Rd.blk l (bl_grown (o := .cells #[.int .i64 l.id, .int .i64 l.fr, .int .i64 l.to, .int .i64 l.rd, .string l.data] 33) (bl_drew (bl_alloc (bl_new W _) (.cells #[] 33))) hg1 (by simp [Value.ownBlock])) rfl))
      | ((refine step_app (α := Lt) _ W.heap.size rfl (.tmp 59) (.tmp 61) 22 33 _ 48 (by rfl) Tryz.underlying22 infoW rfl (by decide) (by decide) v1 x.way [l] (some ⟨w1.heap.size, 0, none⟩) 1 (by rfl) (by rfl) (Below.size (B := W.heap.size) (by (repeat (first | (with_reducible assumption) | (with_reducible exact Below.refl _ _) | (with_reducible refine below_alloc ?_ _) | (with_reducible refine Below.drew ?_))))) (ho1.alloc _) (Rd.new w1 33 l #[.int .i64 l.id, .int .i64 l.fr, .int .i64 l.to, .int .i64 l.rd, .string l.data] rfl) (by exact HL1.out) ?_); (intro v2 w2 ho2 hb2 hg2); (have hW2 : Below W.heap.size W w2 := Below.trans (B := W.heap.size) (by (repeat (first | (with_reducible assumption) | (with_reducible exact Below.refl _ _) | (with_reducible refine below_alloc ?_ _) | (with_reducible refine Below.drew ?_)))) hb2); (obtain ⟨A2, c2, hv2, -, -⟩ := ho2.slice); (obtain ⟨n2, hn2⟩ : ∃ n2, n2 = (x.way ++ [l]).length := ⟨_, rfl⟩); (rw [← hn2] at hv2); (replace hn2 := Lib.hid hn2); (subst hv2); (obtain ⟨⟨k02, k12, k22, k32, k42, k52⟩, f02, f12, f22, f32, f42, f52⟩ := blc6 (bl_below HG.out hW2)); (have hlg2 := bl_lt (bl_below HG.out hW2)))
      | ((refine step_app (α := Lt) _ W.heap.size rfl (.tmp 59) (.tmp 61) 22 33 _ 48 (by rfl) Tryz.underlying22 infoW rfl (by decide) (by decide) v1 x.way [l] (some ⟨W.heap.size + 1, 0, none⟩) 1 (by rfl) (by rfl) (Below.size (B := W.heap.size) (by (repeat (first | (with_reducible assumption) | (with_reducible exact Below.refl _ _) | (with_reducible refine below_alloc ?_ _) | (with_reducible refine Below.drew ?_))))) ho1 hR6 (by exact HL1.out) ?_); (intro v2 w2 ho2 hb2 hg2); (have hW2 : Below W.heap.size W w2 := Below.trans (B := W.heap.size) (by (repeat (first | (with_reducible assumption) | (with_reducible exact Below.refl _ _) | (with_reducible refine below_alloc ?_ _) | (with_reducible refine Below.drew ?_)))) hb2); (obtain ⟨A2, c2, hv2, -, -⟩ := ho2.slice); (obtain ⟨n2, hn2⟩ : ∃ n2, n2 = (x.way ++ [l]).length := ⟨_, rfl⟩); (rw [← hn2] at hv2); (replace hn2 := Lib.hid hn2); (subst hv2); (obtain ⟨⟨k02, k12, k22, k32, k42, k52⟩, f02, f12, f22, f32, f42, f52⟩ := blc6 (bl_below HG.out hW2)); (have hlg2 := bl_lt (bl_below HG.out hW2)))
      | ((refine step_app (α := Lt) _ W.heap.size rfl (.tmp 59) (.tmp 61) 22 33 _ 48 (by rfl) Tryz.underlying22 infoW rfl (by decide) (by decide) v1 x.way [l] (some ⟨W.heap.size, 0, none⟩) 1 (by rfl) (by rfl) (Below.size (B := W.heap.size) (by (repeat (first | (with_reducible assumption) | (with_reducible exact Below.refl _ _) | (with_reducible refine below_alloc ?_ _) | (with_reducible refine Below.drew ?_))))) ho1 hR6 (by exact HL1.out) ?_); (intro v2 w2 ho2 hb2 hg2); (have hW2 : Below W.heap.size W w2 := Below.trans (B := W.heap.size) (by (repeat (first | (with_reducible assumption) | (with_reducible exact Below.refl _ _) | (with_reducible refine below_alloc ?_ _) | (with_reducible refine Below.drew ?_)))) hb2); (obtain ⟨A2, c2, hv2, -, -⟩ := ho2.slice); (obtain ⟨n2, hn2⟩ : ∃ n2, n2 = (x.way ++ [l]).length := ⟨_, rfl⟩); (rw [← hn2] at hv2); (replace hn2 := Lib.hid hn2); (subst hv2); (obtain ⟨⟨k02, k12, k22, k32, k42, k52⟩, f02, f12, f22, f32, f42, f52⟩ := blc6 (bl_below HG.out hW2)); (have hlg2 := bl_lt (bl_below HG.out hW2)))
      | fail "no arm"))
  all_goals
    obtain ⟨e1, e2, e3, e4⟩ := put_end hW2 ho2 HG.out
    exact HK.out _ _ ⟨_, _, st_of 73 (by rfl), rfl, rfl, rfl, e1, e2, e3, e4⟩
noncomputable def regDouble : Code := ((Tryz.f15.body.bind (regR 8)).getD .skip)
set_option maxHeartbeats 4000000 in
set_option maxRecDepth 100000 in
theorem putDouble (x : Nt) (f : Nat → Value) (W : World) (g : Nat) (AW AC AT : Option Addr) (cW cC cT : Nat) (gl : Nat) (l : Lt) (v4 : Value) (K : Act → World → Prop) (Q : Exit → Act → World → Prop)
    (h4 : f 4 = v4) (hn : f 2 = .pointer (some ⟨g, 0, none⟩)) (hlt : f 5 = .pointer (some ⟨gl, 0, none⟩))
    (HG : Hid (W.heap[g]? = some (.cells #[.int .i64 x.nodes, .int .i64 x.now, .int .i64 x.next, .slice AW x.way.length cW, .slice AC x.cuts.length cC, .slice AT x.timers.length cT] 26 (0, 0)))) (HGL : Hid (W.heap[gl]? = some (.cells #[.int .i64 l.id, .int .i64 l.fr, .int .i64 l.to, .int .i64 l.rd, .string l.data] 33 (0, 0)))) (hgl : ¬ gl = g) (HR : Hid (Rd W AW x.way)) (hlen : x.way.length ≤ 10000000)
    (hK : ∀ a w', (∃ f' u, a = st 39 f' ∧ f' 2 = .pointer (some ⟨g, 0, none⟩) ∧ f' 4 = v4 ∧ f' 5 = .pointer (some ⟨gl, 0, none⟩) ∧ Hid (Own w' W.heap.size 33 u (x.way ++ [l])) ∧ Hid (w'.heap[g]? = some (.cells #[.int .i64 x.nodes, .int .i64 x.now, .int .i64 x.next, u, .slice AC x.cuts.length cC, .slice AT x.timers.length cT] 26 (0, 0))) ∧ Hid (Below g W w') ∧ Hid (∀ k o, k ≠ g → W.heap[k]? = some o → w'.heap[k]? = some o)) → K a w') :
    regDouble.wp Tryz.prog (Exit.then K Q) (st 39 f) W := by
  conv => arg 2; whnf
  have HRT : Hid (∀ w', Below W.heap.size W w' → Rd w' AW x.way) := fun w' hb => HR.out.below hb
  have HL : Hid ((0 + x.way.length) * 48 ≤ 140737488355328) := by show _ ≤ _; omega
  have HL1 : Hid ((x.way.length + 1) * 48 ≤ 140737488355328) := by show _ ≤ _; omega
  obtain ⟨⟨p0, p1, p2, p3, p4⟩, -⟩ := blc5 HGL.out
  have hlp := bl_lt HGL.out
  have HK := Lib.hid hK
  obtain ⟨⟨k0, k1, k2, k3, k4, k5⟩, f0, f1, f2, f3, f4, f5⟩ := blc6 HG.out
  have hlg := bl_lt HG.out
  rw [show st 39 f = ⟨#[f 0, f 1, f 2, f 3, f 4, f 5, f 6, f 7, f 8, f 9, f 10, f 11, f 12, f 13, f 14, f 15, f 16, f 17, f 18, f 19, f 20, f 21, f 22, f 23, f 24, f 25, f 26, f 27, f 28, f 29, f 30, f 31, f 32, f 33, f 34, f 35, f 36, f 37, f 38], []⟩ by rfl, h4, hn, hlt]
  clear hK hlen h4 hn hlt
  refine wp_region_noPanic ?_
  go_region_law
    ((first
      | ((refine step_app (α := Lt) _ W.heap.size rfl (.tmp 28) (.tmp 30) 22 33 _ 48 (by rfl) Tryz.underlying22 infoW rfl (by decide) (by decide) (.slice (some ⟨W.heap.size, 0, none⟩) 0 0) [] x.way AW cW (by rfl) (by rfl) (Below.size (B := W.heap.size) (by (repeat (first | (with_reducible assumption) | (with_reducible exact Below.refl _ _) | (with_reducible refine below_alloc ?_ _) | (with_reducible refine Below.drew ?_))))) (Own.fresh W _ _ _ rfl (Nat.le_refl _)) (HRT.out _ (by (repeat (first | (with_reducible assumption) | (with_reducible exact Below.refl _ _) | (with_reducible refine below_alloc ?_ _) | (with_reducible refine Below.drew ?_))))) (by exact HL.out) ?_); (intro v1 w1 ho1 hb1 hg1); (have hW1 : Below W.heap.size W w1 := Below.trans (B := W.heap.size) (by (repeat (first | (with_reducible assumption) | (with_reducible exact Below.refl _ _) | (with_reducible refine below_alloc ?_ _) | (with_reducible refine Below.drew ?_)))) hb1); (obtain ⟨⟨p01, p11, p21, p31, p41⟩, -⟩ := blc5 (bl_below HGL.out hW1)); (have hlp1 := bl_lt (bl_below HGL.out hW1)))
      | ((refine step_app (α := Lt) _ W.heap.size rfl (.tmp 28) (.tmp 30) 22 33 _ 48 (by rfl) Tryz.underlying22 infoW rfl (by decide) (by decide) (.slice (some ⟨W.heap.size, 0, none⟩) 0 0) [] x.way AW cW (by rfl) (by rfl) (Below.size (B := W.heap.size) (by (repeat (first | (with_reducible assumption) | (with_reducible exact Below.refl _ _) | (with_reducible refine below_alloc ?_ _) | (with_reducible refine Below.drew ?_))))) ((Own.fresh W _ _ _ rfl (Nat.le_refl _)).alloc _) (HRT.out _ (by (repeat (first | (with_reducible assumption) | (with_reducible exact Below.refl _ _) | (with_reducible refine below_alloc ?_ _) | (with_reducible refine Below.drew ?_))))) (by exact HL.out) ?_); (intro v1 w1 ho1 hb1 hg1); (have hW1 : Below W.heap.size W w1 := Below.trans (B := W.heap.size) (by (repeat (first | (with_reducible assumption) | (with_reducible exact Below.refl _ _) | (with_reducible refine below_alloc ?_ _) | (with_reducible refine Below.drew ?_)))) hb1); (obtain ⟨⟨p01, p11, p21, p31, p41⟩, -⟩ := blc5 (bl_below HGL.out hW1)); (have hlp1 := bl_lt (bl_below HGL.out hW1)); (have hR6 : Rd w1 (some ⟨W.heap.size + 1, 0, none⟩) [l] := Rd.blk l (bl_grown (o := .cells #[.int .i64 l.id, .int .i64 l.fr, .int .i64 l.to, .int .i64 l.rd, .string l.data] 33) (bl_drew (bl_new2 W (.cells #[] 33) _)) hg1 (by simp [Value.ownBlock])) rfl))
      | ((refine step_app (α := Lt) _ W.heap.size rfl (.tmp 28) (.tmp 30) 22 33 _ 48 (by rfl) Tryz.underlying22 infoW rfl (by decide) (by decide) (.slice (some ⟨W.heap.size + 1, 0, none⟩) 0 0) [] x.way AW cW (by rfl) (by rfl) (Below.size (B := W.heap.size) (by (repeat (first | (with_reducible assumption) | (with_reducible exact Below.refl _ _) | (with_reducible refine below_alloc ?_ _) | (with_reducible refine Below.drew ?_))))) (Own.fresh (W.alloc (.cells #[.int .i64 l.id, .int .i64 l.fr, .int .i64 l.to, .int .i64 l.rd, .string l.data] 33)) _ _ _ (by simp) (Nat.le_succ _)) (HRT.out _ (by (repeat (first | (with_reducible assumption) | (with_reducible exact Below.refl _ _) | (with_reducible refine below_alloc ?_ _) | (with_reducible refine Below.drew ?_))))) (by exact HL.out) ?_); (intro v1 w1 ho1 hb1 hg1); (have hW1 : Below W.heap.size W w1 := Below.trans (B := W.heap.size) (by (repeat (first | (with_reducible assumption) | (with_reducible exact Below.refl _ _) | (with_reducible refine below_alloc ?_ _) | (with_reducible refine Below.drew ?_)))) hb1); (obtain ⟨⟨p01, p11, p21, p31, p41⟩, -⟩ := blc5 (bl_below HGL.out hW1)); (have hlp1 := bl_lt (bl_below HGL.out hW1)); (have hR6 : Rd w1 (some ⟨W.heap.size, 0, none⟩) [l] := Rd.blk l (bl_grown (o := .cells #[.int .i64 l.id, .int .i64 l.fr, .int .i64 l.to, .int .i64 l.rd, .string l.data] 33) (bl_drew (bl_alloc (bl_new W _) (.cells #[] 33))) hg1 (by simp [Value.ownBlock])) rfl))
      | ((refine step_app (α := Lt) _ W.heap.size rfl (.tmp 31) (.tmp 33) 22 33 _ 48 (by rfl) Tryz.underlying22 infoW rfl (by decide) (by decide) v1 x.way [l] (some ⟨w1.heap.size, 0, none⟩) 1 (by rfl) (by rfl) (Below.size (B := W.heap.size) (by (repeat (first | (with_reducible assumption) | (with_reducible exact Below.refl _ _) | (with_reducible refine below_alloc ?_ _) | (with_reducible refine Below.drew ?_))))) (ho1.alloc _) (Rd.new w1 33 l #[.int .i64 l.id, .int .i64 l.fr, .int .i64 l.to, .int .i64 l.rd, .string l.data] rfl) (by exact HL1.out) ?_); (intro v2 w2 ho2 hb2 hg2); (have hW2 : Below W.heap.size W w2 := Below.trans (B := W.heap.size) (by (repeat (first | (with_reducible assumption) | (with_reducible exact Below.refl _ _) | (with_reducible refine below_alloc ?_ _) | (with_reducible refine Below.drew ?_)))) hb2); (obtain ⟨A2, c2, hv2, -, -⟩ := ho2.slice); (obtain ⟨n2, hn2⟩ : ∃ n2, n2 = (x.way ++ [l]).length := ⟨_, rfl⟩); (rw [← hn2] at hv2); (replace hn2 := Lib.hid hn2); (subst hv2); (obtain ⟨⟨k02, k12, k22, k32, k42, k52⟩, f02, f12, f22, f32, f42, f52⟩ := blc6 (bl_below HG.out hW2)); (have hlg2 := bl_lt (bl_below HG.out hW2)))
      | ((refine step_app (α := Lt) _ W.heap.size rfl (.tmp 31) (.tmp 33) 22 33 _ 48 (by rfl) Tryz.underlying22 infoW rfl (by decide) (by decide) v1 x.way [l] (some ⟨W.heap.size + 1, 0, none⟩) 1 (by rfl) (by rfl) (Below.size (B := W.heap.size) (by (repeat (first | (with_reducible assumption) | (with_reducible exact Below.refl _ _) | (with_reducible refine below_alloc ?_ _) | (with_reducible refine Below.drew ?_))))) ho1 hR6 (by exact HL1.out) ?_); (intro v2 w2 ho2 hb2 hg2); (have hW2 : Below W.heap.size W w2 := Below.trans (B := W.heap.size) (by (repeat (first | (with_reducible assumption) | (with_reducible exact Below.refl _ _) | (with_reducible refine below_alloc ?_ _) | (with_reducible refine Below.drew ?_)))) hb2); (obtain ⟨A2, c2, hv2, -, -⟩ := ho2.slice); (obtain ⟨n2, hn2⟩ : ∃ n2, n2 = (x.way ++ [l]).length := ⟨_, rfl⟩); (rw [← hn2] at hv2); (replace hn2 := Lib.hid hn2); (subst hv2); (obtain ⟨⟨k02, k12, k22, k32, k42, k52⟩, f02, f12, f22, f32, f42, f52⟩ := blc6 (bl_below HG.out hW2)); (have hlg2 := bl_lt (bl_below HG.out hW2)))
      | ((refine step_app (α := Lt) _ W.heap.size rfl (.tmp 31) (.tmp 33) 22 33 _ 48 (by rfl) Tryz.underlying22 infoW rfl (by decide) (by decide) v1 x.way [l] (some ⟨W.heap.size, 0, none⟩) 1 (by rfl) (by rfl) (Below.size (B := W.heap.size) (by (repeat (first | (with_reducible assumption) | (with_reducible exact Below.refl _ _) | (with_reducible refine below_alloc ?_ _) | (with_reducible refine Below.drew ?_))))) ho1 hR6 (by exact HL1.out) ?_); (intro v2 w2 ho2 hb2 hg2); (have hW2 : Below W.heap.size W w2 := Below.trans (B := W.heap.size) (by (repeat (first | (with_reducible assumption) | (with_reducible exact Below.refl _ _) | (with_reducible refine below_alloc ?_ _) | (with_reducible refine Below.drew ?_)))) hb2); (obtain ⟨A2, c2, hv2, -, -⟩ := ho2.slice); (obtain ⟨n2, hn2⟩ : ∃ n2, n2 = (x.way ++ [l]).length := ⟨_, rfl⟩); (rw [← hn2] at hv2); (replace hn2 := Lib.hid hn2); (subst hv2); (obtain ⟨⟨k02, k12, k22, k32, k42, k52⟩, f02, f12, f22, f32, f42, f52⟩ := blc6 (bl_below HG.out hW2)); (have hlg2 := bl_lt (bl_below HG.out hW2)))
      | fail "no arm"))
  all_goals
    obtain ⟨e1, e2, e3, e4⟩ := put_end hW2 ho2 HG.out
    exact HK.out _ _ ⟨_, _, st_of 39 (by rfl), rfl, rfl, rfl, e1, e2, e3, e4⟩
noncomputable def regWithout : Code := ((Tryz.f45.body.bind (regR 1)).getD .skip)
set_option maxHeartbeats 4000000 in
set_option maxRecDepth 100000 in
theorem putWithout (x : Nt) (f : Nat → Value) (W : World) (g : Nat) (AW AC AT : Option Addr) (cW cC cT : Nat) (m : Nat) (v4 : Value) (K : Act → World → Prop) (Q : Exit → Act → World → Prop)
    (h4 : f 4 = v4) (hn : f 2 = .pointer (some ⟨g, 0, none⟩)) (hm : f 1 = .int .i64 (m : Int))
    (HG : Hid (W.heap[g]? = some (.cells #[.int .i64 x.nodes, .int .i64 x.now, .int .i64 x.next, .slice AW x.way.length cW, .slice AC x.cuts.length cC, .slice AT x.timers.length cT] 26 (0, 0)))) (hmx : m < x.way.length) (hcap : x.way.length ≤ cW) (HR : Hid (Rd W AW x.way)) (hlen : x.way.length ≤ 10000000)
    (hK : ∀ a w', (∃ f' u, a = st 19 f' ∧ f' 1 = .int .i64 (m : Int) ∧ f' 2 = .pointer (some ⟨g, 0, none⟩) ∧ f' 4 = v4 ∧ Hid (Own w' W.heap.size 33 u (x.way.take m ++ x.way.drop (m + 1))) ∧ Hid (w'.heap[g]? = some (.cells #[.int .i64 x.nodes, .int .i64 x.now, .int .i64 x.next, u, .slice AC x.cuts.length cC, .slice AT x.timers.length cT] 26 (0, 0))) ∧ Hid (Below g W w') ∧ Hid (∀ k o, k ≠ g → W.heap[k]? = some o → w'.heap[k]? = some o)) → K a w') :
    regWithout.wp Tryz.prog (Exit.then K Q) (st 19 f) W := by
  conv => arg 2; whnf
  have hml : (x.way.take m).length = m := by rw [List.length_take]; omega
  have HML := Lib.hid hml
  have HRT : Hid (∀ w', Below W.heap.size W w' → Rd w' AW (x.way.take m)) := fun w' hb => (HR.out.below hb).take m
  have HL : Hid ((0 + m) * 48 ≤ 140737488355328) := by show _ ≤ _; omega
  have HL1 : Hid ((m + (x.way.drop (m + 1)).length) * 48 ≤ 140737488355328) := by show _ ≤ _; rw [List.length_drop]; omega
  have q1 : (0 : Int) ≤ (m : Int) := by omega
  have q2 : (m : Int) ≤ (cW : Int) := by omega
  have q3 : (0 : Int) ≤ (m : Int) + 1 := by omega
  have q4 : (m : Int) + 1 ≤ (x.way.length : Int) := by omega
  have qw : IntKind.i64.wrap ((m : Int) + 1) = (m : Int) + 1 := IntWalk.i64_in _ (by omega)
  have HK := Lib.hid hK
  obtain ⟨⟨k0, k1, k2, k3, k4, k5⟩, f0, f1, f2, f3, f4, f5⟩ := blc6 HG.out
  have hlg := bl_lt HG.out
  rw [show st 19 f = ⟨#[f 0, f 1, f 2, f 3, f 4, f 5, f 6, f 7, f 8, f 9, f 10, f 11, f 12, f 13, f 14, f 15, f 16, f 17, f 18], []⟩ by rfl, h4, hn, hm]
  clear hK hlen h4 hn hm hml
  obtain ⟨bl, ol, rfl⟩ : ∃ bl ol, AW = some ⟨bl, ol, none⟩ := by
    obtain ⟨b, o, h, -⟩ := HR.out m hmx
    exact ⟨b, o, h⟩
  have q5 : (x.way.length : Int) ≤ (cW : Int) := by omega
  by_cases h7 : cW = m + 1
  · have HD0 : Hid (0 = (x.way.drop (m + 1)).length) := by show _ = _; rw [List.length_drop]; omega
    subst h7
    have q6 : (m : Int) ≤ (m : Int) + 1 := by omega
    have q7 : (x.way.length : Int) ≤ (m : Int) + 1 := by omega
    obtain ⟨AD, cD, HD, HRD⟩ : ∃ AD cD, Hid (Value.slice (some ⟨bl, ol, none⟩) 0 0 = .slice AD (x.way.drop (m + 1)).length cD) ∧ Hid (∀ w', Below W.heap.size W w' → Rd w' AD (x.way.drop (m + 1))) :=
      ⟨some ⟨bl, ol, none⟩, 0, congrArg (fun k => Value.slice (some ⟨bl, ol, none⟩) k 0) HD0.out, fun w' _ => by rw [List.drop_eq_nil_of_le (by have := HD0.out; rw [List.length_drop] at this; omega)]; exact fun i hi => absurd hi (by simp)⟩
    refine wp_region_noPanic ?_
    go_region_law
      ((first
        | ((refine step_app (α := Lt) _ W.heap.size rfl (.tmp 5) (.tmp 9) 22 33 _ 48 (by rfl) Tryz.underlying22 infoW rfl (by decide) (by decide) (.slice (some ⟨W.heap.size, 0, none⟩) 0 0) [] (x.way.take m) (some ⟨bl, ol, none⟩) (m + 1) (by rfl) (show _ = _ from congrArg (fun n => Value.slice (some ⟨bl, ol, none⟩) n (m + 1)) HML.out.symm) (Below.size (B := W.heap.size) (by (repeat (first | (with_reducible assumption) | (with_reducible exact Below.refl _ _) | (with_reducible refine below_alloc ?_ _) | (with_reducible refine Below.drew ?_))))) (Own.fresh W _ _ _ rfl (Nat.le_refl _)) (HRT.out _ (by (repeat (first | (with_reducible assumption) | (with_reducible exact Below.refl _ _) | (with_reducible refine below_alloc ?_ _) | (with_reducible refine Below.drew ?_))))) (by rw [HML.out]; exact HL.out) ?_); (intro v1 w1 ho1 hb1 hg1); (have hW1 : Below W.heap.size W w1 := Below.trans (B := W.heap.size) (by (repeat (first | (with_reducible assumption) | (with_reducible exact Below.refl _ _) | (with_reducible refine below_alloc ?_ _) | (with_reducible refine Below.drew ?_)))) hb1); (obtain ⟨⟨k01, k11, k21, k31, k41, k51⟩, f01, f11, f21, f31, f41, f51⟩ := blc6 (bl_below HG.out hW1)); (have hlg1 := bl_lt (bl_below HG.out hW1)))
        | ((refine step_app (α := Lt) _ W.heap.size rfl (.tmp 10) (.tmp 15) 22 33 _ 48 (by rfl) Tryz.underlying22 infoW rfl (by decide) (by decide) v1 (x.way.take m) (x.way.drop (m + 1)) AD cD (by rfl) (show _ = _ from HD.out) (Below.size (B := W.heap.size) (by (repeat (first | (with_reducible assumption) | (with_reducible exact Below.refl _ _) | (with_reducible refine below_alloc ?_ _) | (with_reducible refine Below.drew ?_))))) ho1 (HRD.out _ (by (repeat (first | (with_reducible assumption) | (with_reducible exact Below.refl _ _) | (with_reducible refine below_alloc ?_ _) | (with_reducible refine Below.drew ?_))))) (by rw [HML.out]; exact HL1.out) ?_); (intro v2 w2 ho2 hb2 hg2); (have hW2 : Below W.heap.size W w2 := Below.trans (B := W.heap.size) (by (repeat (first | (with_reducible assumption) | (with_reducible exact Below.refl _ _) | (with_reducible refine below_alloc ?_ _) | (with_reducible refine Below.drew ?_)))) hb2); (obtain ⟨A2, c2, hv2, -, -⟩ := ho2.slice); (obtain ⟨n2, hn2⟩ : ∃ n2, n2 = (x.way.take m ++ x.way.drop (m + 1)).length := ⟨_, rfl⟩); (rw [← hn2] at hv2); (replace hn2 := Lib.hid hn2); (subst hv2); (obtain ⟨⟨k02, k12, k22, k32, k42, k52⟩, f02, f12, f22, f32, f42, f52⟩ := blc6 (bl_below HG.out hW2)); (have hlg2 := bl_lt (bl_below HG.out hW2)))
        | fail "no arm"))
    all_goals
      obtain ⟨e1, e2, e3, e4⟩ := put_end hW2 ho2 HG.out
      exact HK.out _ _ ⟨_, _, st_of 19 (by rfl), rfl, rfl, rfl, e1, e2, e3, e4⟩
  · obtain ⟨AD, cD, HD, HRD⟩ : ∃ AD cD, Hid (Value.slice (some ⟨bl, ol + (m + 1) * 5, none⟩) (x.way.length - (m + 1)) (cW - (m + 1)) = .slice AD (x.way.drop (m + 1)).length cD) ∧ Hid (∀ w', Below W.heap.size W w' → Rd w' AD (x.way.drop (m + 1))) :=
      ⟨_, _, congrArg (fun k => Value.slice (some ⟨bl, ol + (m + 1) * 5, none⟩) k (cW - (m + 1))) List.length_drop.symm, fun w' hb => (HR.out.below hb).dropAt (m + 1)⟩
    refine wp_region_noPanic ?_
    go_region_law
      ((first
        | ((refine step_app (α := Lt) _ W.heap.size rfl (.tmp 5) (.tmp 9) 22 33 _ 48 (by rfl) Tryz.underlying22 infoW rfl (by decide) (by decide) (.slice (some ⟨W.heap.size, 0, none⟩) 0 0) [] (x.way.take m) (some ⟨bl, ol, none⟩) cW (by rfl) (show _ = _ from congrArg (fun n => Value.slice (some ⟨bl, ol, none⟩) n cW) HML.out.symm) (Below.size (B := W.heap.size) (by (repeat (first | (with_reducible assumption) | (with_reducible exact Below.refl _ _) | (with_reducible refine below_alloc ?_ _) | (with_reducible refine Below.drew ?_))))) (Own.fresh W _ _ _ rfl (Nat.le_refl _)) (HRT.out _ (by (repeat (first | (with_reducible assumption) | (with_reducible exact Below.refl _ _) | (with_reducible refine below_alloc ?_ _) | (with_reducible refine Below.drew ?_))))) (by rw [HML.out]; exact HL.out) ?_); (intro v1 w1 ho1 hb1 hg1); (have hW1 : Below W.heap.size W w1 := Below.trans (B := W.heap.size) (by (repeat (first | (with_reducible assumption) | (with_reducible exact Below.refl _ _) | (with_reducible refine below_alloc ?_ _) | (with_reducible refine Below.drew ?_)))) hb1); (obtain ⟨⟨k01, k11, k21, k31, k41, k51⟩, f01, f11, f21, f31, f41, f51⟩ := blc6 (bl_below HG.out hW1)); (have hlg1 := bl_lt (bl_below HG.out hW1)))
        | ((refine step_app (α := Lt) _ W.heap.size rfl (.tmp 10) (.tmp 15) 22 33 _ 48 (by rfl) Tryz.underlying22 infoW rfl (by decide) (by decide) v1 (x.way.take m) (x.way.drop (m + 1)) AD cD (by rfl) (show _ = _ from HD.out) (Below.size (B := W.heap.size) (by (repeat (first | (with_reducible assumption) | (with_reducible exact Below.refl _ _) | (with_reducible refine below_alloc ?_ _) | (with_reducible refine Below.drew ?_))))) ho1 (HRD.out _ (by (repeat (first | (with_reducible assumption) | (with_reducible exact Below.refl _ _) | (with_reducible refine below_alloc ?_ _) | (with_reducible refine Below.drew ?_))))) (by rw [HML.out]; exact HL1.out) ?_); (intro v2 w2 ho2 hb2 hg2); (have hW2 : Below W.heap.size W w2 := Below.trans (B := W.heap.size) (by (repeat (first | (with_reducible assumption) | (with_reducible exact Below.refl _ _) | (with_reducible refine below_alloc ?_ _) | (with_reducible refine Below.drew ?_)))) hb2); (obtain ⟨A2, c2, hv2, -, -⟩ := ho2.slice); (obtain ⟨n2, hn2⟩ : ∃ n2, n2 = (x.way.take m ++ x.way.drop (m + 1)).length := ⟨_, rfl⟩); (rw [← hn2] at hv2); (replace hn2 := Lib.hid hn2); (subst hv2); (obtain ⟨⟨k02, k12, k22, k32, k42, k52⟩, f02, f12, f22, f32, f42, f52⟩ := blc6 (bl_below HG.out hW2)); (have hlg2 := bl_lt (bl_below HG.out hW2)))
        | fail "no arm"))
    all_goals
      obtain ⟨e1, e2, e3, e4⟩ := put_end hW2 ho2 HG.out
      exact HK.out _ _ ⟨_, _, st_of 19 (by rfl), rfl, rfl, rfl, e1, e2, e3, e4⟩
end Go.Proofs.YthlbmcfliejdiaaGreat
end

section
set_option linter.unusedVariables false
set_option linter.unusedSimpArgs false
namespace Go.Proofs.YthlbmcfliejdiaaGreat
open Go.RowKit

set_option maxHeartbeats 4000000 in
set_option maxRecDepth 100000 in
theorem Rwithout_any (x : Nt) (m : Nat) (AW AC AT : Option Addr) (cW cC cT : Nat) (w : World) (hW : Rd w AW x.way) (hcap : x.way.length ≤ cW) (hmx : m < x.way.length) (hl : x.way.length ≤ 10000000) :
    Calls Tryz.prog 45 #[.agg #[.int .i64 x.nodes, .int .i64 x.now, .int .i64 x.next, .slice AW x.way.length cW, .slice AC x.cuts.length cC, .slice AT x.timers.length cT], .int .i64 (m : Int)] w fun e w' => ∃ A c, e = .returned (.agg #[.int .i64 x.nodes, .int .i64 x.now, .int .i64 x.next, .slice A (x.way.eraseIdx m).length c, .slice AC x.cuts.length cC, .slice AT x.timers.length cT]) ∧
      Own w' w.heap.size 33 (.slice A (x.way.eraseIdx m).length c) (x.way.eraseIdx m) ∧ (x.way.eraseIdx m).length ≤ c ∧ Below w.heap.size w w' := by
  obtain ⟨w0, hw0⟩ : ∃ w0, w0 = (w.alloc (.cells #[.int .i64 x.nodes, .int .i64 x.now, .int .i64 x.next, .slice AW x.way.length cW, .slice AC x.cuts.length cC, .slice AT x.timers.length cT] 26)).alloc (.cells #[.int .i64 0, .int .i64 0, .int .i64 0, .slice none 0 0, .slice none 0 0, .slice none 0 0] 26) := ⟨_, rfl⟩
  have HB0 : Hid (Below w.heap.size w w0) := by rw [hw0]; exact below_alloc (below_alloc (Below.refl _ _) _) _
  have HG0 : Hid (w0.heap[w.heap.size]? = some (.cells #[.int .i64 x.nodes, .int .i64 x.now, .int .i64 x.next, .slice AW x.way.length cW, .slice AC x.cuts.length cC, .slice AT x.timers.length cT] 26 (0, 0))) := by rw [hw0]; exact bl_alloc (bl_new _ _) _
  have HM0 : Hid (w0.heap[w.heap.size + 1]? = some (.cells #[.int .i64 0, .int .i64 0, .int .i64 0, .slice none 0 0, .slice none 0 0, .slice none 0 0] 26 (0, 0))) := by rw [hw0]; exact bl_new2 _ _ _
  have HS0 : Hid (w0.heap.size = w.heap.size + 2) := by rw [hw0]; show _ = _; simp
  have HR := Lib.hid (hW.below HB0.out)
  have HW0 := Lib.hid hw0
  clear hw0 hW
  go_enter Tryz.func45, Tryz.ntmps45
  go_upto_region 1 with fail
  rw [← HW0.out]
  clear HW0
  refine wp_st 19 (by rfl) fun f0 hf0 => ?_
  refine wp_cut (fun a wx => ∃ f' u, a = st 19 f' ∧ f' 1 = .int .i64 (m : Int) ∧ f' 2 = .pointer (some ⟨w.heap.size, 0, none⟩) ∧ f' 4 = .pointer (some ⟨w.heap.size + 1, 0, none⟩) ∧ Hid (Own wx w0.heap.size 33 u (x.way.take m ++ x.way.drop (m + 1))) ∧ Hid (wx.heap[w.heap.size]? = some (.cells #[.int .i64 x.nodes, .int .i64 x.now, .int .i64 x.next, u, .slice AC x.cuts.length cC, .slice AT x.timers.length cT] 26 (0, 0))) ∧ Hid (Below w.heap.size w0 wx) ∧ Hid (∀ k o, k ≠ w.heap.size → w0.heap[k]? = some o → wx.heap[k]? = some o)) ?rest ?first
  case first =>
    intro J K' hJ hK'
    exact putWithout x f0 w0 w.heap.size AW AC AT cW cC cT m _ K' _ ((hf0 4).trans rfl) ((hf0 2).trans rfl) ((hf0 1).trans rfl) HG0 hmx hcap HR hl
      (fun a w' ⟨f', u, he, h1, h2, h4, hO, hG, hB, hF⟩ => hK' _ _ (Met.intro (hJ _ _ ⟨f', u, he, h1, h2, h4, hO, hG, hB, hF⟩)))
  case rest =>
    rintro a' w5 ⟨f', u, rfl, h1, h2, h4, HO, HG, HB, HF⟩
    rw [show st 19 f' = ⟨#[f' 0, f' 1, f' 2, f' 3, f' 4, f' 5, f' 6, f' 7, f' 8, f' 9, f' 10, f' 11, f' 12, f' 13, f' 14, f' 15, f' 16, f' 17, f' 18], []⟩ by rfl, h1, h2, h4]
    rw [← List.eraseIdx_eq_take_drop_succ] at HO
    obtain ⟨A, c, rfl, hc, hR⟩ := HO.out.slice
    have HC := Lib.hid hc
    have hm5 := HF.out (w.heap.size + 1) _ (by omega) HM0.out
    obtain ⟨⟨k0, k1, k2, k3, k4, k5⟩, f0, f1, f2, f3, f4, f5⟩ := blc6 HG.out
    have hlg := bl_lt HG.out
    obtain ⟨⟨d0, d1, d2, d3, d4, d5⟩, g0, g1, g2, g3, g4, g5⟩ := blc6 hm5
    have hlm := bl_lt hm5
    have hs0 := HS0.out
    have HM5 := Lib.hid hm5
    clear hf0 f0 h1 h2 h4 hR hc hm5
    go_wp2
    exact ret_c Tryz.results45 (w.heap.size + 1) 26 _ _ rfl (bl_all6 HM5.out _ _ _ _ _ _) Tryz.underlying26 rfl sizeNet rfl ⟨A, c, rfl, (own_far6w HO.out (by omega) _ _ _ _ _ _).weaken (by omega), HC.out, below_set6 (HB0.out.trans HB.out) (by omega) _ _ _ _ _ _⟩
end Go.Proofs.YthlbmcfliejdiaaGreat
end

section
set_option linter.unusedVariables false
set_option linter.unusedSimpArgs false
namespace Go.Proofs.YthlbmcfliejdiaaGreat
open Go.RowKit

end Go.Proofs.YthlbmcfliejdiaaGreat
end

section
set_option linter.unusedVariables false
set_option linter.unusedSimpArgs false
namespace Go.Proofs.YthlbmcfliejdiaaGreat
open Go.RowKit
attribute [local go_sem high] eqATm eqALt eqAAc eqALk

section
variable {w w0 : World} {b B : Nat} {a0 a1 a2 a3 a4 a5 a6 a7 a8 a9 a10 a11 a12 a13 : Value}
end
end Go.Proofs.YthlbmcfliejdiaaGreat
end
