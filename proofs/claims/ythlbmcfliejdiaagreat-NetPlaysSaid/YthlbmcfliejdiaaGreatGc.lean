/- The contracts of the methods of a network that is changed: has, two, lose, double, delay, send; and of link, New, done. The contracts of the methods of a network that is changed: double, delay, send. The contract of the method send of a network that is changed. The contracts of slices.BinarySearchFunc at links (byNodes) and at timers (order). The contracts of slices.Insert(s, i, y) at links and timers, on a row of the call's own. The contracts of slices.IndexFunc at timers with the closure of the method timer, of the method timer, and of slices.Equal at timers. The contracts of the methods cut and heal. The contracts of the method stop. -/
import Derived.Test.YthlbmcfliejdiaaGreatGb
import Derived.RangeFuncOwn
import Derived.Test.YthlbmcfliejdiaaGreatGa
import Derived.Deep.LoopGhost
import Derived.Lib.Overlaps
import Derived.Lib.AppendZerosOnto
import Derived.Laws.Externs
section
set_option linter.unusedVariables false
set_option linter.unusedSimpArgs false
namespace Go.Proofs.YthlbmcfliejdiaaGreat
open Go.RowKit

/-- A state, opened: its block, its rows as slices. -/
theorem St.open {w : World} {B g : Nat} {x : Nt} (h : St w B g x) : ∃ AW cW AC cC AT cT,
    w.heap[g]? = some (.cells #[.int .i64 x.nodes, .int .i64 x.now, .int .i64 x.next, .slice AW x.way.length cW, .slice AC x.cuts.length cC, .slice AT x.timers.length cT] 109 (0, 0)) ∧ B ≤ g ∧
    Own w B 33 (.slice AW x.way.length cW) x.way ∧ Own w B 96 (.slice AC x.cuts.length cC) x.cuts ∧ Own w B 86 (.slice AT x.timers.length cT) x.timers := by
  obtain ⟨vW, vC, vT, hg, hB, oW, oC, oT⟩ := h
  obtain ⟨AW, cW, rfl, -, -⟩ := oW.slice
  obtain ⟨AC, cC, rfl, -, -⟩ := oC.slice
  obtain ⟨AT, cT, rfl, -, -⟩ := oT.slice
  exact ⟨AW, cW, AC, cC, AT, cT, hg, hB, oW, oC, oT⟩
theorem St.below {w w1 : World} {B g : Nat} {x : Nt} (h : St w B g x) (hb : Below w.heap.size w w1) : St w1 B g x := by
  obtain ⟨vW, vC, vT, hg, hB, oW, oC, oT⟩ := h
  exact ⟨vW, vC, vT, bl_below hg hb, hB, oW.below hb, oC.below hb, oT.below hb⟩
theorem St.drew {w : World} {B g : Nat} {x : Nt} (h : St w B g x) : St w.drew B g x := h
theorem St.alloc {w : World} {B g : Nat} {x : Nt} (h : St w B g x) (o : Obj) : St (w.alloc o) B g x := h.below (below_alloc (Below.refl _ _) o)
theorem St.lt {w : World} {B g : Nat} {x : Nt} (h : St w B g x) : g < w.heap.size := by
  obtain ⟨vW, vC, vT, hg, hB, oW, oC, oT⟩ := h
  exact bl_lt hg

/-- Of the blocks that stood in w only g and the row may have turned. -/
structure Kp (w w' : World) (g : Nat) (row : Option Nat) : Prop where
  os : w'.os = w.os
  tape : w'.tape = w.tape
  output : w'.output = w.output
  size : w.heap.size ≤ w'.heap.size
  block : ∀ k, k < w.heap.size → k ≠ g → some k ≠ row → w'.heap[k]? = w.heap[k]?
section
variable {w w1 w2 : World} {g : Nat} {row : Option Nat}
theorem Kp.refl (w : World) (g : Nat) (row : Option Nat) : Kp w w g row := ⟨rfl, rfl, rfl, Nat.le_refl _, fun _ _ _ _ => rfl⟩
theorem Kp.setCell (h : Kp w w1 g row) {p : Addr} (hp : p.block = g ∨ w.heap.size ≤ p.block) (u : Value) : Kp w (w1.setCell p u) g row :=
  ⟨h.os, h.tape, h.output, by simpa [World.setCell] using h.size, fun k hk hne hr => (Below.heap_setCell _ _ _ _ (by omega)).trans (h.block k hk hne hr)⟩
theorem Kp.alloc (h : Kp w w1 g row) (o : Obj) : Kp w (w1.alloc o) g row :=
  ⟨h.os, h.tape, h.output, by have := h.size; simp; omega, fun k hk hne hr => (Below.heap_alloc _ _ _ (by have := h.size; omega)).trans (h.block k hk hne hr)⟩
theorem Kp.drew (h : Kp w w1 g row) : Kp w w1.drew g row := ⟨h.os, h.tape, h.output, h.size, h.block⟩
theorem Kp.below (h : Kp w w1 g row) (k : Below w1.heap.size w1 w2) : Kp w w2 g row :=
  ⟨k.os.trans h.os, k.tape.trans h.tape, k.output.trans h.output, Nat.le_trans h.size k.size, fun i hi hne hr => (k.block i (Nat.lt_of_lt_of_le hi h.size)).trans (h.block i hi hne hr)⟩
theorem Kp.grown (h : Kp w w1 g row) {row1 : Option Nat} (k : w1.grownBy w2 row1) (hr1 : row1 = none ∨ row1 = row ∨ row1 = some g ∨ ∃ b, row1 = some b ∧ w.heap.size ≤ b) : Kp w w2 g row :=
  ⟨k.os.trans h.os, k.tape.trans h.tape, k.output.trans h.output, Nat.le_trans h.size k.size, fun i hi hne hr => (k.block i (Nat.lt_of_lt_of_le hi h.size) (by
    rcases hr1 with rfl | rfl | rfl | ⟨b, rfl, hb⟩
    · simp
    · exact hr
    · simpa using hne
    · simp; omega)).trans (h.block i hi hne hr)⟩
theorem Kp.toBelow (h : Kp w w1 g row) {B : Nat} (hg : B ≤ g) (hr : ∀ k, row = some k → B ≤ k) (hB : B ≤ w.heap.size) : Below B w w1 :=
  ⟨h.os, h.tape, h.output, h.size, fun k hk => h.block k (by omega) (by omega) (fun e => by have := hr k e.symm; omega)⟩
theorem Kp.own {α : Type} [Enc α] {B : Nat} {e : TypeId} {v : Value} {xs : List α} (h : Kp w w1 g row) (ho : Own w B e v xs) (hg : v.ownBlock ≠ some g) (hr : v.ownBlock = none ∨ v.ownBlock ≠ row) : Own w1 B e v xs := by
  refine ⟨ho.1, ?_⟩
  rcases ho.2 with hn | ⟨g', cap, cur, rfl, hb, hgg, rest⟩
  · exact .inl hn
  · refine .inr ⟨g', cap, cur, rfl, hb, ?_, rest⟩
    rw [h.block g' (bl_lt hgg) (by simpa [Value.ownBlock] using hg) (by simpa [Value.ownBlock] using hr)]
    exact hgg
theorem Kp.bl {b : Nat} {o : Obj} (h : Kp w w1 g row) (hb : w.heap[b]? = some o) (hg : b ≠ g) (hr : some b ≠ row) : w1.heap[b]? = some o := (h.block b (bl_lt hb) hg hr).trans hb
end

/-- Whatever is no cells lies as it lay. -/
def Oth (w w' : World) : Prop := w.heap.size ≤ w'.heap.size ∧ ∀ (k : Nat) (o : Obj), w.heap[k]? = some o → o.isCells = false → w'.heap[k]? = some o
theorem Kp.oth {w w1 : World} {g : Nat} {row : Option Nat} (h : Kp w w1 g row) {c1 : Array Value} {t1 : TypeId} {f1 : Nat × Nat} (hg : w.heap[g]? = some (.cells c1 t1 f1)) (hr : ∀ k, row = some k → ∃ c t f, w.heap[k]? = some (.cells c t f)) : Oth w w1 :=
  ⟨h.size, fun k o hk ho => (h.block k (bl_lt hk) (by rintro rfl; rw [hg] at hk; cases hk; cases ho) (fun e => by
    obtain ⟨c, t, f, hc⟩ := hr k e.symm
    rw [hc] at hk; cases hk; cases ho)).trans hk⟩

/-- A block that is neither the network's own nor one of its rows'. -/
def Free (w : World) (g b : Nat) : Prop := b < w.heap.size ∧ b ≠ g ∧ ∀ j v, w.cell? ⟨g, j, none⟩ = some v → v.ownBlock ≠ some b
/-- What is free stays as it was, and free. -/
def Frm (w w' : World) (g : Nat) : Prop := ∀ b, Free w g b → w'.heap[b]? = w.heap[b]? ∧ Free w' g b
theorem Frm.refl (w : World) (g : Nat) : Frm w w g := fun b h => ⟨rfl, h⟩
theorem Frm.trans {w w1 w2 : World} {g : Nat} (h : Frm w w1 g) (k : Frm w1 w2 g) : Frm w w2 g := fun b hb => ⟨((k b (h b hb).2).1).trans (h b hb).1, (k b (h b hb).2).2⟩
theorem Frm.grown {w W W' : World} {g : Nat} {row : Option Nat} (h : Frm w W g) (hW : w.heap.size ≤ W.heap.size) (hg : g < w.heap.size) (hk : W.grownBy W' row) (hr : ∀ r, row = some r → w.heap.size ≤ r) : Frm w W' g := by
  intro b hb
  obtain ⟨h1, h2⟩ := h b hb
  have hne : ∀ i, i < w.heap.size → some i ≠ row := fun i hi he => by have := hr i he.symm; omega
  refine ⟨(hk.block b (by have := hb.1; omega) (hne b hb.1)).trans h1, by have := hk.size; have := h2.1; omega, h2.2.1, fun j v hv => h2.2.2 j v ?_⟩
  rwa [World.cell?_of_block (hk.block g (by omega) (hne g hg))] at hv
theorem Frm.below {w W W' : World} {g : Nat} (h : Frm w W g) (hW : w.heap.size ≤ W.heap.size) (hg : g < w.heap.size) (hb : Below W.heap.size W W') : Frm w W' g :=
  h.grown (row := none) hW hg ⟨hb.os, hb.tape, hb.output, hb.size, fun i hi _ => hb.block i hi⟩ (fun r h => by cases h)
theorem Frm.of_below {w w' : World} {g : Nat} (hg : g < w.heap.size) (hb : Below w.heap.size w w') : Frm w w' g := (Frm.refl w g).below (Nat.le_refl _) hg hb
theorem Frm.setNew {w W : World} {g : Nat} (h : Frm w W g) (hW : w.heap.size ≤ W.heap.size) (hg : g < w.heap.size) {p : Addr} (hp : w.heap.size ≤ p.block) (u : Value) : Frm w (W.setCell p u) g :=
  h.grown (row := some p.block) hW hg ⟨rfl, rfl, rfl, by simp [World.setCell], fun k hk hne' => Below.heap_setCell _ _ _ _ (by rintro rfl; exact hne' rfl)⟩ (fun r e => by cases e; exact hp)
def inOld (w : World) (vW vC vT v' : Value) : Prop := ∀ k, v'.ownBlock = some k → w.heap.size ≤ k ∨ vW.ownBlock = some k ∨ vC.ownBlock = some k ∨ vT.ownBlock = some k
theorem Frm.kp {w w1 : World} {g : Nat} {row : Option Nat} {t t' : TypeId} {f f' : Nat × Nat} {n0 n1 n2 vW vC vT vW' vC' vT' : Value} {k0 k1 k2 : IntKind} {m0 m1 m2 : Int} (hk : Kp w w1 g row)
    (hg : w.heap[g]? = some (.cells #[n0, n1, n2, vW, vC, vT] t f)) (hr : row = vW.ownBlock ∨ row = vC.ownBlock ∨ row = vT.ownBlock)
    (hg1 : w1.heap[g]? = some (.cells #[.int k0 m0, .int k1 m1, .int k2 m2, vW', vC', vT'] t' f')) (h3 : inOld w vW vC vT vW') (h4 : inOld w vW vC vT vC') (h5 : inOld w vW vC vT vT') : Frm w w1 g := by
  intro b hb
  have hW := hb.2.2 3 vW (by rw [bl_cell hg 3]; rfl)
  have hC := hb.2.2 4 vC (by rw [bl_cell hg 4]; rfl)
  have hT := hb.2.2 5 vT (by rw [bl_cell hg 5]; rfl)
  have hold : ∀ v', inOld w vW vC vT v' → v'.ownBlock ≠ some b := fun v' hv he => by
    rcases hv b he with h | h | h | h
    · have := hb.1; omega
    · exact hW h
    · exact hC h
    · exact hT h
  refine ⟨hk.block b hb.1 hb.2.1 (fun he => ?_), by have := hk.size; have := hb.1; omega, hb.2.1, fun j v hv => ?_⟩
  · rcases hr with h | h | h
    · exact hW (h ▸ he.symm)
    · exact hC (h ▸ he.symm)
    · exact hT (h ▸ he.symm)
  · rw [bl_cell hg1 j] at hv
    match j, hv with
    | 0, hv => cases hv; simp [Value.ownBlock]
    | 1, hv => cases hv; simp [Value.ownBlock]
    | 2, hv => cases hv; simp [Value.ownBlock]
    | 3, hv => cases hv; exact hold _ h3
    | 4, hv => cases hv; exact hold _ h4
    | 5, hv => cases hv; exact hold _ h5
    | (j + 6), hv => simp at hv
theorem inOld_self3 (w : World) (vW vC vT : Value) : inOld w vW vC vT vW := fun k h => .inr (.inl h)
theorem inOld_self4 (w : World) (vW vC vT : Value) : inOld w vW vC vT vC := fun k h => .inr (.inr (.inl h))
theorem inOld_self5 (w : World) (vW vC vT : Value) : inOld w vW vC vT vT := fun k h => .inr (.inr (.inr h))
theorem inOld_3 {w : World} {vW vC vT v : Value} (h : v.ownBlock = vW.ownBlock ∨ ∃ k, v.ownBlock = some k ∧ w.heap.size ≤ k) : inOld w vW vC vT v := fun k hk => by
  rcases h with h | ⟨k', h, hl⟩
  · exact .inr (.inl (h ▸ hk))
  · rw [h] at hk; cases hk; exact .inl hl
theorem inOld_4 {w : World} {vW vC vT v : Value} (h : v.ownBlock = vC.ownBlock ∨ ∃ k, v.ownBlock = some k ∧ w.heap.size ≤ k) : inOld w vW vC vT v := fun k hk => by
  rcases h with h | ⟨k', h, hl⟩
  · exact .inr (.inr (.inl (h ▸ hk)))
  · rw [h] at hk; cases hk; exact .inl hl
theorem inOld_5 {w : World} {vW vC vT v : Value} (h : v.ownBlock = vT.ownBlock ∨ ∃ k, v.ownBlock = some k ∧ w.heap.size ≤ k) : inOld w vW vC vT v := fun k hk => by
  rcases h with h | ⟨k', h, hl⟩
  · exact .inr (.inr (.inr (h ▸ hk)))
  · rw [h] at hk; cases hk; exact .inl hl

def hasB (n : Nat) (i : Int) : Bool := decide (0 ≤ i) && decide (i < n)

set_option maxHeartbeats 400000 in
theorem has_any (B g : Nat) (x : Nt) (i : Int) (w : World) (hS : St w B g x) : Calls Tryz.prog 74 #[.pointer (some ⟨g, 0, none⟩), .int .i64 i] w fun e w' => e = .returned (.bool (hasB x.way.length i)) ∧ w = w' := by
  obtain ⟨AW, cW, AC, cC, AT, cT, hg, hB, oW, oC, oT⟩ := hS.open
  have k3 := bl_cell hg 3
  simp at k3
  by_cases h : 0 ≤ i
  · by_cases h2 : i < x.way.length
    all_goals
      go_enter Tryz.func74, Tryz.ntmps74
      go_wp2
      go_ret
      exact ⟨ret_bool (by simp [hasB, *]), rfl⟩
  · go_enter Tryz.func74, Tryz.ntmps74
    go_wp2
    go_ret
    exact ⟨ret_bool (by simp [hasB, *]; omega), rfl⟩

def twoB (nodes a b : Int) : Bool := isNodeB nodes a && isNodeB nodes b && decide (a ≠ b)

set_option maxHeartbeats 1000000 in
theorem two_any (B g : Nat) (x : Nt) (a b : Int) (w : World) (hS : St w B g x) : Calls Tryz.prog 97 #[.pointer (some ⟨g, 0, none⟩), .int .i64 a, .int .i64 b] w fun e w' => e = .returned (.bool (twoB x.nodes a b)) ∧ Below w.heap.size w w' := by
  obtain ⟨AW, cW, AC, cC, AT, cT, hg, hB, oW, oC, oT⟩ := hS.open
  have k0 := bl_cell hg 0
  have k1 := bl_cell hg 1
  have k2 := bl_cell hg 2
  have k3 := bl_cell hg 3
  have k4 := bl_cell hg 4
  have k5 := bl_cell hg 5
  simp at k0 k1 k2 k3 k4 k5
  have hlt := bl_lt hg
  clear hg oW oC oT
  go_enter Tryz.func97, Tryz.ntmps97
  go_wp2_with (go_at_call 71; refine calls_below (isNode_any _ _ _ _ _ _ _ _ _ _ _ _ _ _) ?_; intro w1 hb1; (first | (replace hb0 := below_trans hb0 hb1; clear hc hb1) | (have hb0 := hb1; clear hb1)); obtain ⟨hc, -⟩ := bcell hb0)
  all_goals
    go_ret
    exact ⟨ret_bool (by rw [Bool.eq_iff_iff]; simp [twoB, *] <;> omega), hb0⟩

def mkLk (a b : Int) : Lk := ⟨min a b, max a b⟩

set_option maxHeartbeats 400000 in
theorem link_any (a b : Int) (w : World) : Calls Tryz.prog 95 #[.int .i64 a, .int .i64 b] w fun e w' => e = .returned (.agg #[.int .i64 (mkLk a b).a, .int .i64 (mkLk a b).b]) ∧ Below w.heap.size w w' := by
  go_enter Tryz.func95, Tryz.ntmps95
  go_wp2
  all_goals
    refine bodyPost_ret (v := .agg #[.int .i64 (mkLk a b).a, .int .i64 (mkLk a b).b]) ?_ rfl ⟨rfl, below_alloc (Below.refl _ _) _⟩
    simp [results, Tryz.results95, go_sem, mkLk] <;> omega

def zLt : Lt := ⟨0, 0, 0, 0, ⟨#[]⟩⟩
def zNt : Nt := ⟨0, 0, 0, [], [], []⟩

set_option maxHeartbeats 1000000 in
set_option maxRecDepth 100000 in
theorem lose_none (B g : Nat) (x : Nt) (i : Int) (w : World) (hS : St w B g x) (hi : hasB x.way.length i = false) : Calls Tryz.prog 48 #[.pointer (some ⟨g, 0, none⟩), .int .i64 i] w fun e w' =>
    e = .returned (.tuple #[.agg #[.int .i64 zLt.id, .int .i64 zLt.fr, .int .i64 zLt.to, .int .i64 zLt.rd, .string zLt.data], .int .i64 4]) ∧ Below w.heap.size w w' := by
  have HI := Lib.hid hi
  clear hi
  go_enter Tryz.func48, Tryz.ntmps48
  go_wp2_with (go_at_call 74; refine (has_any B g x i _ (hS.alloc _)).mono ?_; rintro e w' ⟨rfl, rfl⟩; rw [HI.out])
  refine bodyPost_ret (v := .tuple #[.agg #[.int .i64 zLt.id, .int .i64 zLt.fr, .int .i64 zLt.to, .int .i64 zLt.rd, .string zLt.data], .int .i64 4]) (by simp [results, Tryz.results48, go_sem, zLt]) rfl ⟨rfl, below_alloc (Below.refl _ _) _⟩

set_option maxHeartbeats 1000000 in
set_option maxRecDepth 100000 in
theorem lose_ok (B g i : Nat) (x : Nt) (l : Lt) (w : World) (hS : St w B g x) (hB0 : B ≤ w.heap.size) (hl : x.way[i]? = some l) : Calls Tryz.prog 48 #[.pointer (some ⟨g, 0, none⟩), .int .i64 i] w fun e w' =>
    e = .returned (.tuple #[.agg #[.int .i64 l.id, .int .i64 l.fr, .int .i64 l.to, .int .i64 l.rd, .string l.data], .int .i64 0]) ∧ St w' B g { x with way := x.way.eraseIdx i } ∧ Below B w w' ∧ Frm w w' g ∧ Oth w w' ∧ ∃ row, Kp w w' g row ∧ (∀ v, w.cell? ⟨g, 3, none⟩ = some v → v.ownBlock = row) ∧ (∀ v, w'.cell? ⟨g, 3, none⟩ = some v → v.ownBlock = row) := by
  have hi := (List.getElem?_eq_some_iff.1 hl).1
  have hh : hasB x.way.length i = true := by simp [hasB]; omega
  have HI := Lib.hid hh
  clear hh
  obtain ⟨AW, cW, AC, cC, AT, cT, hg, hB, oW, oC, oT⟩ := hS.open
  obtain ⟨gw, rfl⟩ : ∃ gw, AW = some ⟨gw, 0, none⟩ := by
    rcases oW.2 with ⟨h, h0⟩ | ⟨g', cap, cur, h, _⟩
    · omega
    · injection h with h1 h2 h3
      exact ⟨g', h1⟩
  have hgw : ¬ gw = g := by
    have := oW.ne hg (by decide)
    simpa [Value.ownBlock] using this
  have hlw := (oW.lt gw rfl)
  have hlt := bl_lt hg
  have k3 := bl_cell hg 3
  have f3 := bl_frozen hg 3
  simp at k3
  go_enter Tryz.func48, Tryz.ntmps48
  go_wp2_with (go_at_call 74; refine (has_any B g x i _ (hS.alloc _)).mono ?_; rintro e w' ⟨rfl, rfl⟩; rw [HI.out])
  have HL := Lib.hid hl
  clear hl
  refine (withoutW_any gw i cW B x.way l _ HL.out (oW.alloc _)).mono ?_
  rintro e w1 ⟨rfl, oW1, hg1⟩
  have n1 : ¬ g = gw := fun h => hgw h.symm
  have n2 : ¬ w.heap.size = gw := by omega
  have n3 : ¬ g = w.heap.size := by omega
  have b0 := bl_grown (bl_alloc hg (.cells #[.int .i64 0, .int .i64 0, .int .i64 0, .int .i64 0, .string ⟨#[]⟩] 33)) hg1 (by simpa using n1)
  have b1 := bl_grown (bl_new w (.cells #[.int .i64 0, .int .i64 0, .int .i64 0, .int .i64 0, .string ⟨#[]⟩] 33)) hg1 (by simpa using n2)
  have g3 := bl_frozen b0 3
  have z3 := bl_cell b0 3
  have z0 := bl_cell b1 0
  have z1 := bl_cell b1 1
  have z2 := bl_cell b1 2
  have z4 := bl_cell b1 3
  have z5 := bl_cell b1 4
  have y0 := bl_frozen b1 0
  have y1 := bl_frozen b1 1
  have y2 := bl_frozen b1 2
  have y3 := bl_frozen b1 3
  have y4 := bl_frozen b1 4
  simp at z3 z0 z1 z2 z4 z5
  clear k3 f3
  go_wp2
  have hK1 : Kp w w1 g (some gw) := ((Kp.refl w g (some gw)).alloc _).grown hg1 (.inr (.inl rfl))
  refine ret_ct Tryz.results48 w.heap.size 33 #[.int .i64 l.id, .int .i64 l.fr, .int .i64 l.to, .int .i64 l.rd, .string l.data] _ rfl (bl_all5 (bl_all5 (bl_far b1 (fun h => n3 h.symm) _) _ _ _ _ _) _ _ _ _ _) Tryz.underlying33 rfl sizeLt rfl ⟨rfl, ⟨.slice (some ⟨gw, 0, none⟩) (x.way.length - 1) cW, .slice AC x.cuts.length cC, .slice AT x.timers.length cT, ?_, hB, ?_, ?_, ?_⟩, ?_, ?_, ?_, some gw, ?_, ?_, ?_⟩
  · repeat (refine bl_far ?_ n3 _)
    simpa using bl_set b0 3 (.slice (some ⟨gw, 0, none⟩) (x.way.length - 1) cW)
  · repeat (refine Own.setCell ?_ (by simp [Value.ownBlock]; omega) _)
    exact oW1
  · repeat (refine Kp.own (w := w) (g := g) (row := some gw) ?_ oC (oC.ne hg (by decide)) (oC.ne_own oW (by decide)))
    repeat (refine Kp.setCell ?_ (by simp) _)
    exact hK1
  · refine Kp.own (w := w) (g := g) (row := some gw) ?_ oT (oT.ne hg (by decide)) (oT.ne_own oW (by decide))
    repeat (refine Kp.setCell ?_ (by simp) _)
    exact hK1
  · refine Kp.toBelow (g := g) (row := some gw) ?_ hB (fun k hk => by cases hk; exact hlw.1) hB0
    repeat (refine Kp.setCell ?_ (by simp) _)
    exact hK1
  · refine Frm.kp (row := some gw) (vW' := .slice (some ⟨gw, 0, none⟩) (x.way.length - 1) cW) ?_ hg (.inl rfl) (by (repeat (refine bl_far ?_ n3 _)); simpa using bl_set b0 3 (.slice (some ⟨gw, 0, none⟩) (x.way.length - 1) cW)) (inOld_3 (.inl rfl)) (inOld_self4 _ _ _ _) (inOld_self5 _ _ _ _)
    repeat (refine Kp.setCell ?_ (by simp) _)
    exact hK1
  · refine Kp.oth (g := g) (row := some gw) ?_ hg (fun k hk => by
      cases hk
      obtain ⟨cur, hc, -⟩ := oW.open
      exact ⟨_, _, _, hc⟩)
    repeat (refine Kp.setCell ?_ (by simp) _)
    exact hK1
  · repeat (refine Kp.setCell ?_ (by simp) _)
    exact hK1
  · intro v hv
    have h3 := bl_cell hg 3
    simp at h3
    rw [h3] at hv
    cases hv
    rfl
  · have key : ∀ W : World, W.heap[g]? = some (.cells #[.int .i64 x.nodes, .int .i64 x.now, .int .i64 x.next, .slice (some ⟨gw, 0, none⟩) (x.way.length - 1) cW, .slice AC x.cuts.length cC, .slice AT x.timers.length cT] 109 (0, 0)) →
        ∀ v, W.cell? ⟨g, 3, none⟩ = some v → v.ownBlock = some gw := fun W h v hv => by
      rw [bl_cell h 3] at hv
      simp at hv
      subst hv
      rfl
    refine key _ ?_
    repeat (refine bl_far ?_ n3 _)
    simpa using bl_set b0 3 (.slice (some ⟨gw, 0, none⟩) (x.way.length - 1) cW)
end Go.Proofs.YthlbmcfliejdiaaGreat
end

section
set_option linter.unusedVariables false
set_option linter.unusedSimpArgs false
namespace Go.Proofs.YthlbmcfliejdiaaGreat
open Go.RowKit

set_option maxHeartbeats 1000000 in
set_option maxRecDepth 100000 in
theorem double_none (B g : Nat) (x : Nt) (i : Int) (w : World) (hS : St w B g x) (hi : hasB x.way.length i = false) : Calls Tryz.prog 50 #[.pointer (some ⟨g, 0, none⟩), .int .i64 i] w fun e w' =>
    e = .returned (.tuple #[.agg #[.int .i64 zLt.id, .int .i64 zLt.fr, .int .i64 zLt.to, .int .i64 zLt.rd, .string zLt.data], .int .i64 4]) ∧ Below w.heap.size w w' := by
  have HI := Lib.hid hi
  clear hi
  go_enter Tryz.func50, Tryz.ntmps50
  go_wp2_with (go_at_call 74; refine (has_any B g x i _ (hS.alloc _)).mono ?_; rintro e w' ⟨rfl, rfl⟩; rw [HI.out])
  exact ret_ct Tryz.results50 w.heap.size 33 #[.int .i64 zLt.id, .int .i64 zLt.fr, .int .i64 zLt.to, .int .i64 zLt.rd, .string zLt.data] _ rfl (bl_new w _) Tryz.underlying33 rfl sizeLt rfl ⟨rfl, below_alloc (Below.refl _ _) _⟩

set_option maxHeartbeats 1000000 in
set_option maxRecDepth 100000 in
theorem double_full (B g : Nat) (x : Nt) (i : Int) (w : World) (hS : St w B g x) (hi : hasB x.way.length i = true) (hf : x.way.length = 200) : Calls Tryz.prog 50 #[.pointer (some ⟨g, 0, none⟩), .int .i64 i] w fun e w' =>
    e = .returned (.tuple #[.agg #[.int .i64 zLt.id, .int .i64 zLt.fr, .int .i64 zLt.to, .int .i64 zLt.rd, .string zLt.data], .int .i64 7]) ∧ Below w.heap.size w w' := by
  have HI := Lib.hid hi
  clear hi
  obtain ⟨AW, cW, AC, cC, AT, cT, hg, hB, oW, oC, oT⟩ := hS.open
  have k3 := bl_cell hg 3
  simp at k3
  have hlt := bl_lt hg
  rw [hf] at k3
  clear hf hg oW oC oT
  go_enter Tryz.func50, Tryz.ntmps50
  go_wp2_with (go_at_call 74; refine (has_any B g x i _ (hS.alloc _)).mono ?_; rintro e w' ⟨rfl, rfl⟩; rw [HI.out])
  exact ret_ct Tryz.results50 w.heap.size 33 #[.int .i64 zLt.id, .int .i64 zLt.fr, .int .i64 zLt.to, .int .i64 zLt.rd, .string zLt.data] _ rfl (bl_new w _) Tryz.underlying33 rfl sizeLt rfl ⟨rfl, below_alloc (Below.refl _ _) _⟩

set_option maxHeartbeats 2000000 in
set_option maxRecDepth 100000 in
theorem double_ok (B g i : Nat) (x : Nt) (l : Lt) (w : World) (hS : St w B g x) (hB0 : B ≤ w.heap.size) (hl : x.way[i]? = some l) (hf : x.way.length < 200) : Calls Tryz.prog 50 #[.pointer (some ⟨g, 0, none⟩), .int .i64 i] w fun e w' =>
    e = .returned (.tuple #[.agg #[.int .i64 l.id, .int .i64 l.fr, .int .i64 l.to, .int .i64 l.rd, .string l.data], .int .i64 0]) ∧ St w' B g { x with way := x.way ++ [l] } ∧ Below B w w' ∧ Frm w w' g := by
  have hi := (List.getElem?_eq_some_iff.1 hl).1
  have hh : hasB x.way.length i = true := by simp [hasB]; omega
  have HI := Lib.hid hh
  clear hh
  obtain ⟨AW, cW, AC, cC, AT, cT, hg, hB, oW, oC, oT⟩ := hS.open
  have hlt := bl_lt hg
  have k3 := bl_cell hg 3
  have f3 := bl_frozen hg 3
  simp at k3
  have hR : Rd w AW x.way := by
    obtain ⟨A, c, e, _, h⟩ := oW.slice
    cases e
    exact h
  obtain ⟨gw, off, y, rfl, hy, c0, c1, c2, c3, c4⟩ := hR.lt i hi
  obtain rfl : y = l := Option.some.inj (hy.out.symm.trans hl)
  have HL := Lib.hid hl
  have hlw : gw < w.heap.size := World.block_lt_of_cell? w _ c0
  have hl1 : g < w.heap.size + 1 := by omega
  have hl2 : g < w.heap.size + 2 := by omega
  have hl3 : g < w.heap.size + 3 := by omega
  have hne : ((x.way.length : Int) == 200) = false := by rw [beq_eq_false_iff_ne]; omega
  have hq1 : (i : Int) < (x.way.length : Int) := by omega
  clear hl hy
  go_enter Tryz.func50, Tryz.ntmps50
  go_wp2_with (go_at_call 74; refine (has_any B g x i _ (hS.alloc _)).mono ?_; rintro e w' ⟨rfl, rfl⟩; rw [HI.out])
  obtain ⟨off0, rfl⟩ : ∃ z : Unit, off = 0 := ⟨(), by
    rcases oW.2 with ⟨h, h0⟩ | ⟨g', cap, cur, h, _⟩
    · cases h
    · injection h with h1 h2 h3
      injection h1 with h1
      injection h1⟩
  refine wp_mix [(0, true), (1, true), (2, true), (3, true), (4, true), (5, true), (6, true), (7, false), (8, false)] 9
    (fun w' => w'.cell? ⟨g, 3, none⟩ = some (.slice (some ⟨gw, 0, none⟩) x.way.length cW) ∧ w'.cell? ⟨w.heap.size + 1, 0, none⟩ = some (.int .i64 y.id) ∧ w'.cell? ⟨w.heap.size + 1, 1, none⟩ = some (.int .i64 y.fr) ∧ w'.cell? ⟨w.heap.size + 1, 2, none⟩ = some (.int .i64 y.to) ∧ w'.cell? ⟨w.heap.size + 1, 3, none⟩ = some (.int .i64 y.rd) ∧ w'.cell? ⟨w.heap.size + 1, 4, none⟩ = some (.string y.data))
    (by kernel_rfl) (by kernel_rfl) (by kernel_rfl) (by kernel_rfl) (by kernel_rfl) (fun d _ _ _ _ h => by cases d <;> exact h) (by go_simp) ?_
  simp only [pick, List.map_cons, List.map_nil, List.getD_cons_zero, List.getD_cons_succ, List.drop_succ_cons, List.drop_zero]
  iterate 7
    apply mix_take
    case hw => rfl
    case hy => intro W hW; obtain ⟨e0, e1, e2, e3, e4, e5⟩ := hW; go_simp; try rfl
    simp only [Act.put, List.setIfInBounds_toArray, List.set_cons_zero, List.set_cons_succ]
  refine mix_do fun K' hK' => ?_
  go_wp2
  refine hK' _ _ (by go_simp) ?_
  clear hK' K'
  refine mix_do fun K' hK' => ?_
  refine wpList_app _ B rfl (.tmp 35) (.tmp 37) 22 33 _ 48 rfl Tryz.underlying22 infoW rfl (by decide) (by decide) (.slice (some ⟨gw, 0, none⟩) x.way.length cW) x.way [y] (some ⟨w.heap.size + 2, 0, none⟩) 1 rfl rfl (((oW.alloc _).alloc _).drew.alloc _) ?hR (by simp; omega) (by simp; omega) ?_
  case hR =>
    have h := (Rd.new ((w.alloc (.cells #[.int .i64 0, .int .i64 0, .int .i64 0, .int .i64 0, .string ⟨#[]⟩] 33)).alloc (.cells #[.int .i64 y.id, .int .i64 y.fr, .int .i64 y.to, .int .i64 y.rd, .string y.data] 33)) 33 y #[.int .i64 y.id, .int .i64 y.fr, .int .i64 y.to, .int .i64 y.rd, .string y.data] rfl).drew
    simp only [World.size_alloc] at h
    exact h
  intro v1 w1 oW1 hg1 hat
  obtain ⟨A1, c1', rfl, -, -⟩ := oW1.slice
  have hgw : ¬ gw = g := by
    have := oW.ne hg (by decide)
    simpa [Value.ownBlock] using this
  have hg1' : (((w.alloc (.cells #[.int .i64 0, .int .i64 0, .int .i64 0, .int .i64 0, .string ⟨#[]⟩] 33)).alloc (.cells #[.int .i64 y.id, .int .i64 y.fr, .int .i64 y.to, .int .i64 y.rd, .string y.data] 33)).alloc (.cells #[.int .i64 y.id, .int .i64 y.fr, .int .i64 y.to, .int .i64 y.rd, .string y.data] 33)).drew.grownBy w1 (some gw) := hg1
  obtain ⟨gc, gf⟩ := gcell hg1'
  have n1 : ¬ g = gw := fun h => hgw h.symm
  have n2 : ¬ w.heap.size = gw := by omega
  have n3 : ¬ g = w.heap.size := by omega
  have n4 : ¬ w.heap.size + 1 = gw := by omega
  go_wp2
  refine hK' _ _ (by go_simp) (mix_nil ?_)
  clear hK' K'
  go_wp2
  have b1 := bl_grown (bl_drew (bl_alloc (bl_alloc (bl_new w (.cells #[.int .i64 0, .int .i64 0, .int .i64 0, .int .i64 0, .string ⟨#[]⟩] 33)) _) _)) hg1' (by simpa using n2)
  have b0 := bl_grown (bl_drew (bl_alloc (bl_alloc (bl_alloc hg _) _) _)) hg1' (by simpa using n1)
  have hK1 : Kp w w1 g (some gw) := ((((Kp.refl w g (some gw)).alloc _).alloc _).alloc _).drew.grown hg1' (.inr (.inl rfl))
  have hA1 : (Value.slice A1 (x.way ++ [y]).length c1').ownBlock ≠ some g := oW1.ne b0 (by decide)
  have hA2 : (Value.slice A1 (x.way ++ [y]).length c1').ownBlock ≠ some w.heap.size := by
    intro h
    rcases hat with h2 | h2
    · exact n2 (by simpa [Value.ownBlock] using h.symm.trans h2)
    · have h3 := h.symm.trans h2
      simp at h3 <;> omega
  refine ret_ct Tryz.results50 w.heap.size 33 #[.int .i64 y.id, .int .i64 y.fr, .int .i64 y.to, .int .i64 y.rd, .string y.data] _ rfl (bl_all5 (bl_far b1 (fun h => n3 h.symm) _) _ _ _ _ _) Tryz.underlying33 rfl sizeLt rfl ⟨rfl, ⟨.slice A1 (x.way ++ [y]).length c1', .slice AC x.cuts.length cC, .slice AT x.timers.length cT, ?_, hB, ?_, ?_, ?_⟩, ?_, ?_⟩
  · repeat (refine bl_far ?_ n3 _)
    simpa using bl_set b0 3 (.slice A1 (x.way ++ [y]).length c1')
  · repeat (refine Own.setCell ?_ (by first | exact hA1 | exact hA2) _)
    exact oW1
  · refine Kp.own (w := w) (g := g) (row := some gw) ?_ oC (oC.ne hg (by decide)) (oC.ne_own oW (by decide))
    repeat (refine Kp.setCell ?_ (by simp) _)
    exact hK1
  · refine Kp.own (w := w) (g := g) (row := some gw) ?_ oT (oT.ne hg (by decide)) (oT.ne_own oW (by decide))
    repeat (refine Kp.setCell ?_ (by simp) _)
    exact hK1
  · refine Kp.toBelow (g := g) (row := some gw) ?_ hB (fun k hk => by cases hk; exact (oW.lt gw rfl).1) hB0
    repeat (refine Kp.setCell ?_ (by simp) _)
    exact hK1
  · refine Frm.kp (row := some gw) (vW' := .slice A1 (x.way ++ [y]).length c1') ?_ hg (.inl rfl) (by (repeat (refine bl_far ?_ n3 _)); simpa using bl_set b0 3 (.slice A1 (x.way ++ [y]).length c1')) (inOld_3 (hat.imp_right fun h => ⟨_, h, by simp; omega⟩)) (inOld_self4 _ _ _ _) (inOld_self5 _ _ _ _)
    repeat (refine Kp.setCell ?_ (by simp) _)
    exact hK1

theorem grown_row (w : World) (g j : Nat) (u : Value) : w.grownBy (w.setCell ⟨g, j, none⟩ u) (some g) :=
  ⟨rfl, rfl, rfl, by simp [World.setCell], fun k _ hne => Below.heap_setCell _ _ _ _ (by rintro rfl; exact hne rfl)⟩
theorem flat_set {α : Type} [Enc α] (xs : List α) (i k : Nat) (x x' : α) (u : Value) (hk : k < Enc.sz α) (hx : xs[i]? = some x) (he : (Enc.enc x).set k u = Enc.enc x') : (flat xs).set (i * Enc.sz α + k) u = flat (xs.set i x') := by
  induction xs generalizing i with
  | nil => simp at hx
  | cons y ys ih =>
    have h : flat (y :: ys) = Enc.enc y ++ flat ys := rfl
    have hl := Enc.len y
    cases i with
    | zero =>
      have hyx : y = x := by simpa using hx
      subst hyx
      have h2 : flat ((y :: ys).set 0 x') = Enc.enc x' ++ flat ys := rfl
      rw [h, h2, Nat.zero_mul, Nat.zero_add, List.set_append_left _ _ (by rw [hl]; exact hk), he]
    | succ i =>
      have h2 : flat ((y :: ys).set (i + 1) x') = Enc.enc y ++ flat (ys.set i x') := rfl
      rw [h, h2, List.set_append_right _ _ (by rw [hl, Nat.add_mul]; omega), hl, show (i + 1) * Enc.sz α + k - Enc.sz α = i * Enc.sz α + k by rw [Nat.add_mul]; omega, ih i (by simpa using hx)]
theorem Own.store {α : Type} [Enc α] {w : World} {B : Nat} {e : TypeId} {g n cap : Nat} {xs : List α} (h : Own w B e (.slice (some ⟨g, 0, none⟩) n cap) xs) (i k : Nat) (x x' : α) (u : Value) (hk : k < Enc.sz α) (hx : xs[i]? = some x) (he : (Enc.enc x).set k u = Enc.enc x') :
    Own (w.setCell ⟨g, i * Enc.sz α + k, none⟩ u) B e (.slice (some ⟨g, 0, none⟩) n cap) (xs.set i x') := by
  obtain ⟨cur, -, hn, -⟩ := h.open
  subst hn
  have hs := (World.ownsRow.stored h (i * Enc.sz α + k) u).1
  rw [flat_set xs i k x x' u hk hx he] at hs
  show World.ownsRow _ _ _ _ _ (xs.set i x').length _
  rw [List.length_set]
  exact hs

set_option maxHeartbeats 1000000 in
set_option maxRecDepth 100000 in
theorem delay_none (B g : Nat) (x : Nt) (i n : Int) (w : World) (hS : St w B g x) (hi : hasB x.way.length i = false) : Calls Tryz.prog 52 #[.pointer (some ⟨g, 0, none⟩), .int .i64 i, .int .i64 n] w fun e w' =>
    e = .returned (.tuple #[.agg #[.int .i64 zLt.id, .int .i64 zLt.fr, .int .i64 zLt.to, .int .i64 zLt.rd, .string zLt.data], .int .i64 4]) ∧ Below w.heap.size w w' := by
  have HI := Lib.hid hi
  clear hi
  go_enter Tryz.func52, Tryz.ntmps52
  go_wp2_with (go_at_call 74; refine (has_any B g x i _ (hS.alloc _)).mono ?_; rintro e w' ⟨rfl, rfl⟩; rw [HI.out])
  exact ret_ct Tryz.results52 w.heap.size 33 #[.int .i64 zLt.id, .int .i64 zLt.fr, .int .i64 zLt.to, .int .i64 zLt.rd, .string zLt.data] _ rfl (bl_new w _) Tryz.underlying33 rfl sizeLt rfl ⟨rfl, below_alloc (Below.refl _ _) _⟩

set_option maxHeartbeats 1000000 in
set_option maxRecDepth 100000 in
theorem delay_arg (B g : Nat) (x : Nt) (i n : Int) (w : World) (hS : St w B g x) (hi : hasB x.way.length i = true) (hn : n < 0 ∨ 1000 < n) : Calls Tryz.prog 52 #[.pointer (some ⟨g, 0, none⟩), .int .i64 i, .int .i64 n] w fun e w' =>
    e = .returned (.tuple #[.agg #[.int .i64 zLt.id, .int .i64 zLt.fr, .int .i64 zLt.to, .int .i64 zLt.rd, .string zLt.data], .int .i64 1]) ∧ Below w.heap.size w w' := by
  have HI := Lib.hid hi
  clear hi
  rcases hn with hn | hn
  · go_enter Tryz.func52, Tryz.ntmps52
    go_wp2_with (go_at_call 74; refine (has_any B g x i _ (hS.alloc _)).mono ?_; rintro e w' ⟨rfl, rfl⟩; rw [HI.out])
    exact ret_ct Tryz.results52 w.heap.size 33 #[.int .i64 zLt.id, .int .i64 zLt.fr, .int .i64 zLt.to, .int .i64 zLt.rd, .string zLt.data] _ rfl (bl_new w _) Tryz.underlying33 rfl sizeLt rfl ⟨rfl, below_alloc (Below.refl _ _) _⟩
  · have hn0 : ¬ n < 0 := by omega
    go_enter Tryz.func52, Tryz.ntmps52
    go_wp2_with (go_at_call 74; refine (has_any B g x i _ (hS.alloc _)).mono ?_; rintro e w' ⟨rfl, rfl⟩; rw [HI.out])
    exact ret_ct Tryz.results52 w.heap.size 33 #[.int .i64 zLt.id, .int .i64 zLt.fr, .int .i64 zLt.to, .int .i64 zLt.rd, .string zLt.data] _ rfl (bl_new w _) Tryz.underlying33 rfl sizeLt rfl ⟨rfl, below_alloc (Below.refl _ _) _⟩

set_option maxHeartbeats 2000000 in
set_option maxRecDepth 100000 in
theorem delay_ok (B g i : Nat) (x : Nt) (n : Int) (l : Lt) (w : World) (hS : St w B g x) (hB0 : B ≤ w.heap.size) (hl : x.way[i]? = some l) (hn0 : 0 ≤ n) (hn1 : n ≤ 1000) (hnow0 : 0 ≤ x.now) (hnow1 : x.now ≤ 1099511627776) :
    Calls Tryz.prog 52 #[.pointer (some ⟨g, 0, none⟩), .int .i64 i, .int .i64 n] w fun e w' =>
    e = .returned (.tuple #[.agg #[.int .i64 l.id, .int .i64 l.fr, .int .i64 l.to, .int .i64 (x.now + n), .string l.data], .int .i64 0]) ∧ St w' B g { x with way := x.way.set i { l with rd := x.now + n } } ∧ Below B w w' ∧ Frm w w' g := by
  have hi := (List.getElem?_eq_some_iff.1 hl).1
  have hh : hasB x.way.length i = true := by simp [hasB]; omega
  have HI := Lib.hid hh
  clear hh
  obtain ⟨AW, cW, AC, cC, AT, cT, hg, hB, oW, oC, oT⟩ := hS.open
  have hlt := bl_lt hg
  have k3 := bl_cell hg 3
  have k1 := bl_cell hg 1
  simp at k3 k1
  have hR : Rd w AW x.way := by
    obtain ⟨A, c, e, _, h⟩ := oW.slice
    cases e
    exact h
  obtain ⟨gw, off, y, rfl, hy, c0, c1, c2, c3, c4⟩ := hR.lt i hi
  obtain rfl : y = l := Option.some.inj (hy.out.symm.trans hl)
  obtain ⟨off0, rfl⟩ : ∃ z : Unit, off = 0 := ⟨(), by
    rcases oW.2 with ⟨h, h0⟩ | ⟨g', cap, cur, h, _⟩
    · cases h
    · injection h with h1 h2 h3
      injection h1 with h1
      injection h1⟩
  simp only [Nat.zero_add] at c0 c1 c2 c3 c4
  have HL := Lib.hid hl
  have hlw : gw < w.heap.size := World.block_lt_of_cell? w _ c0
  have hgw : ¬ gw = g := by
    have := oW.ne hg (by decide)
    simpa [Value.ownBlock] using this
  have n1 : ¬ g = gw := fun h => hgw h.symm
  have hl1 : g < w.heap.size + 1 := by omega
  have hl2 : gw < w.heap.size + 1 := by omega
  have n2 : ¬ gw = w.heap.size := by omega
  have n3 : ¬ g = w.heap.size := by omega
  have hq0 : (0 : Int) ≤ (i : Int) := by omega
  have hq1 : (i : Int) < (x.way.length : Int) := by omega
  have hw : IntKind.i64.wrap (x.now + n) = x.now + n := IntWalk.i64_in _ (by omega)
  have ff : ∀ j, w.frozen? ⟨gw, j, none⟩ = false := by
    intro j
    obtain ⟨cur, hgc, -⟩ := oW.open
    exact bl_frozen hgc j
  have f3 := ff (i * 5 + 3)
  have hRD := Lib.hid hR
  clear hl hy ff hR
  go_enter Tryz.func52, Tryz.ntmps52
  go_wp2_with (go_at_call 74; refine (has_any B g x i _ (hS.alloc _)).mono ?_; rintro e w' ⟨rfl, rfl⟩; rw [HI.out])
  refine wp_still_tail 15 (by kernel_rfl) (by kernel_rfl) ?_
  simp only [List.take_succ_cons, List.take_zero, List.drop_succ_cons, List.drop_zero]
  repeat still_step
  refine wpStill_nil ?_
  go_wp2
  refine ret_ct Tryz.results52 w.heap.size 33 #[.int .i64 y.id, .int .i64 y.fr, .int .i64 y.to, .int .i64 (x.now + n), .string y.data] _ rfl ?_ Tryz.underlying33 rfl sizeLt rfl ⟨rfl, ⟨.slice (some ⟨gw, 0, none⟩) x.way.length cW, .slice AC x.cuts.length cC, .slice AT x.timers.length cT, ?_, hB, ?_, ?_, ?_⟩, ?_, ?_⟩
  · simpa using bl_drew (bl_new (w.setCell ⟨gw, i * 5 + 3, none⟩ (.int .i64 (x.now + n))) (.cells #[.int .i64 y.id, .int .i64 y.fr, .int .i64 y.to, .int .i64 (x.now + n), .string y.data] 33))
  · exact bl_drew (bl_alloc (bl_far hg n1 _) _)
  · exact ((oW.store i 3 y { y with rd := x.now + n } (.int .i64 (x.now + n)) (by decide) HL.out rfl).alloc _).drew
  · exact Kp.own (w := w) (g := g) (row := some gw) (((Kp.refl w g (some gw)).grown (grown_row w gw _ _) (.inr (.inl rfl))).alloc _).drew oC (oC.ne hg (by decide)) (oC.ne_own oW (by decide))
  · exact Kp.own (w := w) (g := g) (row := some gw) (((Kp.refl w g (some gw)).grown (grown_row w gw _ _) (.inr (.inl rfl))).alloc _).drew oT (oT.ne hg (by decide)) (oT.ne_own oW (by decide))
  · exact Kp.toBelow (g := g) (row := some gw) (((Kp.refl w g (some gw)).grown (grown_row w gw _ _) (.inr (.inl rfl))).alloc _).drew hB (fun k hk => by cases hk; exact (oW.lt gw rfl).1) hB0
  · exact Frm.kp (row := some gw) (((Kp.refl w g (some gw)).grown (grown_row w gw _ _) (.inr (.inl rfl))).alloc _).drew hg (.inl rfl) (bl_drew (bl_alloc (bl_far hg n1 _) _)) (inOld_self3 _ _ _ _) (inOld_self4 _ _ _ _) (inOld_self5 _ _ _ _)
end Go.Proofs.YthlbmcfliejdiaaGreat
end

section
set_option linter.unusedVariables false
set_option linter.unusedSimpArgs false
namespace Go.Proofs.YthlbmcfliejdiaaGreat
open Go.RowKit

theorem below_set5 {w w1 : World} (h : Below w.heap.size w w1) (a0 a1 a2 a3 a4 : Value) : Below w.heap.size w (((((w1.setCell ⟨w.heap.size, 0, none⟩ a0).setCell ⟨w.heap.size, 1, none⟩ a1).setCell ⟨w.heap.size, 2, none⟩ a2).setCell ⟨w.heap.size, 3, none⟩ a3).setCell ⟨w.heap.size, 4, none⟩ a4) := (((((h.setCell (p := ⟨w.heap.size, 0, none⟩) (Nat.le_refl _) a0).setCell (p := ⟨w.heap.size, 1, none⟩) (Nat.le_refl _) a1).setCell (p := ⟨w.heap.size, 2, none⟩) (Nat.le_refl _) a2).setCell (p := ⟨w.heap.size, 3, none⟩) (Nat.le_refl _) a3).setCell (p := ⟨w.heap.size, 4, none⟩) (Nat.le_refl _) a4)

def sendB (x : Nt) (fr to : Int) (data : ByteArray) : Bool := isNodeB x.nodes fr && isNodeB x.nodes to && decide (fr ≠ to) && decide (data.size ≤ 500000)

set_option maxHeartbeats 2000000 in
set_option maxRecDepth 100000 in
theorem send_arg (B g : Nat) (x : Nt) (fr to : Int) (data : ByteArray) (w : World) (hS : St w B g x) (hb : sendB x fr to data = false) :
    Calls Tryz.prog 37 #[.pointer (some ⟨g, 0, none⟩), .int .i64 fr, .int .i64 to, .string data] w fun e w' =>
    e = .returned (.tuple #[.agg #[.int .i64 zLt.id, .int .i64 zLt.fr, .int .i64 zLt.to, .int .i64 zLt.rd, .string zLt.data], .int .i64 1]) ∧ Below w.heap.size w w' := by
  have HB := Lib.hid hb
  clear hb
  obtain ⟨AW, cW, AC, cC, AT, cT, hg, hB, oW, oC, oT⟩ := hS.open
  have k0 := bl_cell hg 0
  have k1 := bl_cell hg 1
  have k2 := bl_cell hg 2
  have k3 := bl_cell hg 3
  have k4 := bl_cell hg 4
  have k5 := bl_cell hg 5
  simp at k0 k1 k2 k3 k4 k5
  have hlt := bl_lt hg
  have hl1 : g < w.heap.size + 1 := by omega
  have n3 : ¬ g = w.heap.size := by omega
  clear hg oW oC oT
  go_enter Tryz.func37, Tryz.ntmps37
  go_wp2_with (go_at_call 71; refine calls_below (isNode_any _ _ _ _ _ _ _ _ _ _ _ _ _ _) ?_; intro w1 hb1; (first | (replace hb0 := below_trans hb0 hb1; clear hc hf hb1) | (have hb0 := hb1; clear hb1)); obtain ⟨hc, hf⟩ := bcell hb0)
  all_goals first
    | (exfalso; have hz := HB.out; simp [sendB, *] at hz <;> omega)
    | (refine ret_ct Tryz.results37 w.heap.size 33 #[.int .i64 zLt.id, .int .i64 zLt.fr, .int .i64 zLt.to, .int .i64 zLt.rd, .string zLt.data] _ rfl (bl_all5 (bl_below (bl_new w _) hb0) _ _ _ _ _) Tryz.underlying33 rfl sizeLt rfl ⟨rfl, below_set5 (below_trans (below_alloc (Below.refl _ _) _) hb0) _ _ _ _ _⟩)

set_option maxHeartbeats 2000000 in
set_option maxRecDepth 100000 in
theorem send_lim (B g : Nat) (x : Nt) (fr to : Int) (data : ByteArray) (w : World) (hS : St w B g x) (hb : sendB x fr to data = true) (hnx : x.next = 1099511627776) :
    Calls Tryz.prog 37 #[.pointer (some ⟨g, 0, none⟩), .int .i64 fr, .int .i64 to, .string data] w fun e w' =>
    e = .returned (.tuple #[.agg #[.int .i64 zLt.id, .int .i64 zLt.fr, .int .i64 zLt.to, .int .i64 zLt.rd, .string zLt.data], .int .i64 3]) ∧ Below w.heap.size w w' := by
  have hb' := hb
  simp only [sendB, Bool.and_eq_true, decide_eq_true_eq] at hb'
  obtain ⟨⟨⟨hb1', hb2'⟩, hb3'⟩, hb4'⟩ := hb'
  have hb5' : (fr == to) = false := by simpa using hb3'
  have hb6' : (data.size : Int) ≤ 500000 := by omega
  have hnx1 : (x.next == 1099511627776) = true := by simp [hnx]
  have HNX := Lib.hid hnx
  clear hnx hb
  obtain ⟨AW, cW, AC, cC, AT, cT, hg, hB, oW, oC, oT⟩ := hS.open
  have k0 := bl_cell hg 0
  have k1 := bl_cell hg 1
  have k2 := bl_cell hg 2
  have k3 := bl_cell hg 3
  have k4 := bl_cell hg 4
  have k5 := bl_cell hg 5
  simp at k0 k1 k2 k3 k4 k5
  have hlt := bl_lt hg
  have hl1 : g < w.heap.size + 1 := by omega
  have n3 : ¬ g = w.heap.size := by omega
  clear hg oW oC oT
  go_enter Tryz.func37, Tryz.ntmps37
  go_wp2_with (go_at_call 71; refine calls_below (isNode_any _ _ _ _ _ _ _ _ _ _ _ _ _ _) ?_; intro w1 hb1; (first | (replace hb0 := below_trans hb0 hb1; clear hc hf hb1) | (have hb0 := hb1; clear hb1)); obtain ⟨hc, hf⟩ := bcell hb0)
  refine ret_ct Tryz.results37 w.heap.size 33 #[.int .i64 zLt.id, .int .i64 zLt.fr, .int .i64 zLt.to, .int .i64 zLt.rd, .string zLt.data] _ rfl (bl_all5 (bl_below (bl_new w _) hb0) _ _ _ _ _) Tryz.underlying33 rfl sizeLt rfl ⟨rfl, below_set5 (below_trans (below_alloc (Below.refl _ _) _) hb0) _ _ _ _ _⟩

set_option maxHeartbeats 2000000 in
set_option maxRecDepth 100000 in
theorem send_full (B g : Nat) (x : Nt) (fr to : Int) (data : ByteArray) (w : World) (hS : St w B g x) (hb : sendB x fr to data = true) (hnx : ¬ x.next = 1099511627776) (hf : x.way.length = 200) :
    Calls Tryz.prog 37 #[.pointer (some ⟨g, 0, none⟩), .int .i64 fr, .int .i64 to, .string data] w fun e w' =>
    e = .returned (.tuple #[.agg #[.int .i64 zLt.id, .int .i64 zLt.fr, .int .i64 zLt.to, .int .i64 zLt.rd, .string zLt.data], .int .i64 7]) ∧ Below w.heap.size w w' := by
  have hb' := hb
  simp only [sendB, Bool.and_eq_true, decide_eq_true_eq] at hb'
  obtain ⟨⟨⟨hb1', hb2'⟩, hb3'⟩, hb4'⟩ := hb'
  have hb5' : (fr == to) = false := by simpa using hb3'
  have hb6' : (data.size : Int) ≤ 500000 := by omega
  have hnx1 : (x.next == 1099511627776) = false := by simp [hnx]
  have hf1 : ((x.way.length : Int) == 200) = true := by simp [hf]
  have HF := Lib.hid hf
  clear hf hb
  obtain ⟨AW, cW, AC, cC, AT, cT, hg, hB, oW, oC, oT⟩ := hS.open
  have k0 := bl_cell hg 0
  have k1 := bl_cell hg 1
  have k2 := bl_cell hg 2
  have k3 := bl_cell hg 3
  have k4 := bl_cell hg 4
  have k5 := bl_cell hg 5
  simp at k0 k1 k2 k3 k4 k5
  have hlt := bl_lt hg
  have hl1 : g < w.heap.size + 1 := by omega
  have n3 : ¬ g = w.heap.size := by omega
  clear hg oW oC oT
  go_enter Tryz.func37, Tryz.ntmps37
  go_wp2_with (go_at_call 71; refine calls_below (isNode_any _ _ _ _ _ _ _ _ _ _ _ _ _ _) ?_; intro w1 hb1; (first | (replace hb0 := below_trans hb0 hb1; clear hc hf hb1) | (have hb0 := hb1; clear hb1)); obtain ⟨hc, hf⟩ := bcell hb0)
  refine ret_ct Tryz.results37 w.heap.size 33 #[.int .i64 zLt.id, .int .i64 zLt.fr, .int .i64 zLt.to, .int .i64 zLt.rd, .string zLt.data] _ rfl (bl_all5 (bl_below (bl_new w _) hb0) _ _ _ _ _) Tryz.underlying33 rfl sizeLt rfl ⟨rfl, below_set5 (below_trans (below_alloc (Below.refl _ _) _) hb0) _ _ _ _ _⟩

set_option maxHeartbeats 2000000 in
set_option maxRecDepth 100000 in
theorem send_ok (B g : Nat) (x : Nt) (fr to : Int) (data : ByteArray) (w : World) (hS : St w B g x) (hb : sendB x fr to data = true) (hnx : ¬ x.next = 1099511627776) (hf : x.way.length < 200) (hB0 : B ≤ w.heap.size) (hn0 : 0 ≤ x.next) (hn1 : x.next < 1099511627776) :
    Calls Tryz.prog 37 #[.pointer (some ⟨g, 0, none⟩), .int .i64 fr, .int .i64 to, .string data] w fun e w' =>
    e = .returned (.tuple #[.agg #[.int .i64 x.next, .int .i64 fr, .int .i64 to, .int .i64 x.now, .string data], .int .i64 0]) ∧ St w' B g { x with next := x.next + 1, way := x.way ++ [⟨x.next, fr, to, x.now, data⟩] } ∧ Below B w w' ∧ Frm w w' g := by
  have hb' := hb
  simp only [sendB, Bool.and_eq_true, decide_eq_true_eq] at hb'
  obtain ⟨⟨⟨hb1', hb2'⟩, hb3'⟩, hb4'⟩ := hb'
  have hb5' : (fr == to) = false := by simpa using hb3'
  have hb6' : (data.size : Int) ≤ 500000 := by omega
  have hnx1 : (x.next == 1099511627776) = false := by simp [hnx]
  have hf1 : ((x.way.length : Int) == 200) = false := by rw [beq_eq_false_iff_ne]; omega
  have HF := Lib.hid hf
  clear hf hb
  obtain ⟨AW, cW, AC, cC, AT, cT, hg, hB, oW, oC, oT⟩ := hS.open
  have k0 := bl_cell hg 0
  have k1 := bl_cell hg 1
  have k2 := bl_cell hg 2
  have k3 := bl_cell hg 3
  have k4 := bl_cell hg 4
  have k5 := bl_cell hg 5
  simp at k0 k1 k2 k3 k4 k5
  have hlt := bl_lt hg
  have hl1 : g < w.heap.size + 1 := by omega
  have n3 : ¬ g = w.heap.size := by omega
  go_enter Tryz.func37, Tryz.ntmps37
  go_wp2_with (go_at_call 71; refine calls_below (isNode_any _ _ _ _ _ _ _ _ _ _ _ _ _ _) ?_; intro w1 hb1; (first | (replace hb0 := below_trans hb0 hb1; clear hc hf hb1) | (have hb0 := hb1; clear hb1)); obtain ⟨hc, hf⟩ := bcell hb0)
  clear hc hf k0 k1 k2 k3 k4 k5
  have hB1 : Below w.heap.size w w1 := below_trans (below_alloc (Below.refl _ _) _) hb0
  have hs1 : w.heap.size < w1.heap.size := by have := hb0.size; simp at this; omega
  have hg' := bl_below hg hB1
  have bB := bl_below (bl_new w _) hb0
  have oW' := oW.below hB1
  have oC' := oC.below hB1
  have oT' := oT.below hB1
  have k1 := bl_cell hg' 1
  have k2 := bl_cell hg' 2
  have k3 := bl_cell hg' 3
  have f2 := bl_frozen hg' 2
  have f3 := bl_frozen hg' 3
  simp at k1 k2 k3
  have hq : IntKind.i64.wrap (x.next + 1) = x.next + 1 := IntWalk.i64_in _ (by omega)
  refine wp_mix [(0, true), (1, true), (2, true), (3, true), (4, true), (5, true), (6, true), (7, true), (8, true), (9, true), (10, true), (11, true), (12, true), (13, true), (14, false)] 15
    (fun w' => w'.cell? ⟨g, 1, none⟩ = some (.int .i64 x.now) ∧ w'.cell? ⟨g, 2, none⟩ = some (.int .i64 x.next))
    (by kernel_rfl) (by kernel_rfl) (by kernel_rfl) (by kernel_rfl) (by kernel_rfl) (fun d _ _ _ _ h => by cases d <;> exact h) ⟨k1, k2⟩ ?_
  simp only [pick, List.map_cons, List.map_nil, List.getD_cons_zero, List.getD_cons_succ, List.drop_succ_cons, List.drop_zero]
  iterate 14
    apply mix_take
    case hw => rfl
    case hy => intro W hW; obtain ⟨e0, e1⟩ := hW; go_simp; try rfl
    simp only [Act.put, List.setIfInBounds_toArray, List.set_cons_zero, List.set_cons_succ]
  have hlg : g < w1.heap.size := by omega
  refine mix_do fun K' hK' => ?_
  go_wp2
  refine hK' _ _ (by go_simp) (mix_nil ?_)
  clear hK' K'
  go_wp2
  have hl1' : g < w1.heap.size + 1 := by omega
  have hl2' : g < w1.heap.size + 2 := by omega
  have hl3' : w.heap.size < w1.heap.size + 1 := by omega
  have hl4' : w.heap.size < w1.heap.size + 2 := by omega
  refine wp_mix [(0, true), (1, true), (2, true), (3, true), (4, true), (5, true), (6, true), (7, false), (8, false)] 9
    (fun w' => w'.cell? ⟨g, 3, none⟩ = some (.slice AW x.way.length cW) ∧ w'.cell? ⟨w1.heap.size, 0, none⟩ = some (.int .i64 x.next) ∧ w'.cell? ⟨w1.heap.size, 1, none⟩ = some (.int .i64 fr) ∧ w'.cell? ⟨w1.heap.size, 2, none⟩ = some (.int .i64 to) ∧ w'.cell? ⟨w1.heap.size, 3, none⟩ = some (.int .i64 x.now) ∧ w'.cell? ⟨w1.heap.size, 4, none⟩ = some (.string data))
    (by kernel_rfl) (by kernel_rfl) (by kernel_rfl) (by kernel_rfl) (by kernel_rfl) (fun d _ _ _ _ h => by cases d <;> exact h) (by go_simp) ?_
  simp only [pick, List.map_cons, List.map_nil, List.getD_cons_zero, List.getD_cons_succ, List.drop_succ_cons, List.drop_zero]
  iterate 7
    apply mix_take
    case hw => rfl
    case hy => intro W hW; obtain ⟨e0, e1, e2, e3, e4, e5⟩ := hW; go_simp; try rfl
    simp only [Act.put, List.setIfInBounds_toArray, List.set_cons_zero, List.set_cons_succ]
  refine mix_do fun K' hK' => ?_
  go_wp2
  refine hK' _ _ (by go_simp) ?_
  clear hK' K'
  refine mix_do fun K' hK' => ?_
  refine wpList_app _ B rfl (.tmp 75) (.tmp 77) 22 33 _ 48 rfl Tryz.underlying22 infoW rfl (by decide) (by decide) (.slice AW x.way.length cW) x.way [⟨x.next, fr, to, x.now, data⟩] (some ⟨w1.heap.size + 1, 0, none⟩) 1 rfl rfl ((oW'.alloc _).alloc _).drew.drew ?hR (by simp; omega) (by have := HF.out; simp; omega) ?_
  case hR =>
    have h := (Rd.new (w1.alloc (.cells #[.int .i64 x.next, .int .i64 fr, .int .i64 to, .int .i64 x.now, .string data] 33)) 33 (⟨x.next, fr, to, x.now, data⟩ : Lt) #[.int .i64 x.next, .int .i64 fr, .int .i64 to, .int .i64 x.now, .string data] rfl).drew
    simp only [World.size_alloc] at h
    exact h
  intro v1 w2 oW1 hg2 hat
  obtain ⟨A1, c1', rfl, -, -⟩ := oW1.slice
  have nG : (Value.slice AW x.way.length cW).ownBlock ≠ some g := oW'.ne hg' (by decide)
  have nB : (Value.slice AW x.way.length cW).ownBlock ≠ some w.heap.size := fun h => by have := (oW.lt _ h).2; omega
  have nL : (Value.slice AW x.way.length cW).ownBlock ≠ some w1.heap.size := fun h => by have := (oW.lt _ h).2; omega
  have bg2 := bl_grown (bl_drew (bl_drew (bl_alloc (bl_alloc hg' _) _))) hg2 (Ne.symm nG)
  have bb2 := bl_grown (bl_drew (bl_drew (bl_alloc (bl_alloc bB _) _))) hg2 (Ne.symm nB)
  have bl2 := bl_grown (bl_drew (bl_drew (bl_alloc (bl_new w1 (.cells #[.int .i64 x.next, .int .i64 fr, .int .i64 to, .int .i64 x.now, .string data] 33)) _))) hg2 (Ne.symm nL)
  have u2 := bl_cell bg2 2
  have u3 := bl_cell bg2 3
  have v2 := bl_frozen bg2 2
  have v3 := bl_frozen bg2 3
  have l0 := bl_cell bl2 0
  have l1 := bl_cell bl2 1
  have l2 := bl_cell bl2 2
  have l3 := bl_cell bl2 3
  have l4 := bl_cell bl2 4
  have x0 := bl_cell bb2 0
  have x1 := bl_cell bb2 1
  have x2 := bl_cell bb2 2
  have x3 := bl_cell bb2 3
  have x4 := bl_cell bb2 4
  have y0 := bl_frozen bb2 0
  have y1 := bl_frozen bb2 1
  have y2 := bl_frozen bb2 2
  have y3 := bl_frozen bb2 3
  have y4 := bl_frozen bb2 4
  simp at u2 u3 l0 l1 l2 l3 l4 x0 x1 x2 x3 x4
  have n5 : ¬ g = w1.heap.size := by omega
  have n6 : ¬ w.heap.size = w1.heap.size := by omega
  go_wp2
  refine hK' _ _ ⟨u3, l0, l1, l2, l3, l4⟩ (mix_nil ?_)
  clear hK' K'
  clear k1 k2 k3 f2 f3
  go_wp2
  have hK1 : Kp w w2 g (Value.slice AW x.way.length cW).ownBlock := (((((Kp.refl w g _).below hB1).alloc _).alloc _).drew.drew).grown hg2 (.inr (.inl rfl))
  have hA1 : (Value.slice A1 (x.way ++ [(⟨x.next, fr, to, x.now, data⟩ : Lt)]).length c1').ownBlock ≠ some g := oW1.ne bg2 (by decide)
  have hA2 : (Value.slice A1 (x.way ++ [(⟨x.next, fr, to, x.now, data⟩ : Lt)]).length c1').ownBlock ≠ some w.heap.size := by
    intro h
    rcases hat with h2 | h2
    · exact nB (h2.symm.trans h)
    · have h3 := h.symm.trans h2
      simp at h3 <;> omega
  refine ret_ct Tryz.results37 w.heap.size 33 #[.int .i64 x.next, .int .i64 fr, .int .i64 to, .int .i64 x.now, .string data] _ rfl (bl_all5 (bl_far (bl_far bb2 (fun h => n3 h.symm) _) (fun h => n3 h.symm) _) _ _ _ _ _) Tryz.underlying33 rfl sizeLt rfl ⟨rfl, ⟨.slice A1 (x.way ++ [(⟨x.next, fr, to, x.now, data⟩ : Lt)]).length c1', .slice AC x.cuts.length cC, .slice AT x.timers.length cT, ?_, hB, ?_, ?_, ?_⟩, ?_, ?_⟩
  · repeat (refine bl_far ?_ n3 _)
    simpa using bl_set (bl_set bg2 3 (.slice A1 (x.way ++ [(⟨x.next, fr, to, x.now, data⟩ : Lt)]).length c1')) 2 (.int .i64 (x.next + 1))
  · repeat (refine Own.setCell ?_ (by first | exact hA1 | exact hA2) _)
    exact oW1
  · refine Kp.own (w := w) (g := g) (row := (Value.slice AW x.way.length cW).ownBlock) ?_ oC (oC.ne hg (by decide)) (oC.ne_own oW (by decide))
    repeat (refine Kp.setCell ?_ (by simp) _)
    exact hK1
  · refine Kp.own (w := w) (g := g) (row := (Value.slice AW x.way.length cW).ownBlock) ?_ oT (oT.ne hg (by decide)) (oT.ne_own oW (by decide))
    repeat (refine Kp.setCell ?_ (by simp) _)
    exact hK1
  · refine Kp.toBelow (g := g) (row := (Value.slice AW x.way.length cW).ownBlock) ?_ hB (fun k hk => (oW.lt k hk).1) hB0
    repeat (refine Kp.setCell ?_ (by simp) _)
    exact hK1
  · refine Frm.kp (row := (Value.slice AW x.way.length cW).ownBlock) (vW' := .slice A1 (x.way ++ [(⟨x.next, fr, to, x.now, data⟩ : Lt)]).length c1') ?_ hg (.inl rfl) (by (repeat (refine bl_far ?_ n3 _)); simpa using bl_set (bl_set bg2 3 (.slice A1 (x.way ++ [(⟨x.next, fr, to, x.now, data⟩ : Lt)]).length c1')) 2 (.int .i64 (x.next + 1))) (inOld_3 (hat.imp_right fun h => ⟨_, h, by simp; omega⟩)) (inOld_self4 _ _ _ _) (inOld_self5 _ _ _ _)
    repeat (refine Kp.setCell ?_ (by simp) _)
    exact hK1
end Go.Proofs.YthlbmcfliejdiaaGreat
end

section
set_option linter.unusedVariables false
set_option linter.unusedSimpArgs false
namespace Go.Proofs.YthlbmcfliejdiaaGreat
open Go.RowKit

def foundF {α : Type} (cmp : α → α → Int) (xs : List α) (p : Nat) (y : α) : Bool := match xs[p]? with
  | some x => decide (cmp x y = 0)
  | none => false
/-- Where a search stops: what stands right ahead is less, what stands there is not. -/
def bsAt {α : Type} (cmp : α → α → Int) (xs : List α) (p : Nat) (y : α) : Prop :=
  p ≤ xs.length ∧ (∀ q x, q + 1 = p → xs[q]? = some x → cmp x y < 0) ∧ (∀ x, xs[p]? = some x → ¬ cmp x y < 0)
def bsIn {α : Type} (cmp : α → α → Int) (xs : List α) (lo hi : Nat) (y : α) : Prop :=
  (∀ q x, q + 1 = lo → xs[q]? = some x → cmp x y < 0) ∧ (∀ x, xs[hi]? = some x → ¬ cmp x y < 0)
theorem bsIn_start {α : Type} (cmp : α → α → Int) (xs : List α) (y : α) : bsIn cmp xs 0 xs.length y := ⟨fun q x h => by omega, fun x h => by simp at h⟩
theorem bsIn_lo {α : Type} {cmp : α → α → Int} {xs : List α} {lo hi m : Nat} {x y : α} (h : bsIn cmp xs lo hi y) (hx : xs[m]? = some x) (hc : cmp x y < 0) : bsIn cmp xs (m + 1) hi y :=
  ⟨fun q x' hq hx' => by obtain rfl : q = m := by omega
                         rw [hx] at hx'; cases hx'; exact hc, h.2⟩
theorem bsIn_hi {α : Type} {cmp : α → α → Int} {xs : List α} {lo hi m : Nat} {x y : α} (h : bsIn cmp xs lo hi y) (hx : xs[m]? = some x) (hc : ¬ cmp x y < 0) : bsIn cmp xs lo m y :=
  ⟨h.1, fun x' hx' => by rw [hx] at hx'; cases hx'; exact hc⟩
theorem found_some {α : Type} {cmp : α → α → Int} {xs : List α} {p : Nat} {x y : α} (h : xs[p]? = some x) : foundF cmp xs p y = decide (cmp x y = 0) := by simp [foundF, h]
theorem found_none {α : Type} {cmp : α → α → Int} {xs : List α} {p : Nat} {y : α} (h : xs.length ≤ p) : foundF cmp xs p y = false := by simp [foundF, h]

-- BEGIN LINK
set_option maxHeartbeats 2000000 in
set_option maxRecDepth 100000 in
theorem BsC_any (A : Option Addr) (c : Nat) (xs : List Lk) (y : Lk) (w : World) (hl : xs.length ≤ 4611686018427387903) (hR : Rd w A xs) :
    Calls Tryz.prog 98 #[.slice A xs.length c, .agg #[.int .i64 y.a, .int .i64 y.b], .func (.func 99) #[] #[]] w fun e w' =>
      ∃ p : Nat, e = .returned (.tuple #[.int .i64 p, .bool (foundF lkCmp xs p y)]) ∧ bsAt lkCmp xs p y ∧ Below w.heap.size w w' := by
  have HR := Lib.hid hR
  clear hR
  go_enter Tryz.func98, Tryz.ntmps98
  go_wp2
  go_loopg [9, 10] xs.length (fun kx s9 s10 wr => ∃ lo hi : Nat, s9 = .int .i64 lo ∧ s10 = .int .i64 hi ∧ lo ≤ hi ∧ hi ≤ xs.length ∧ hi - lo ≤ kx ∧ Hid (bsIn lkCmp xs lo hi y) ∧
    Below w.heap.size w wr ∧ w.heap.size < wr.heap.size ∧ wr.cell? ⟨w.heap.size, 0, none⟩ = some (.int .i64 y.a) ∧ wr.cell? ⟨w.heap.size, 1, none⟩ = some (.int .i64 y.b))
  case atStart => exact ⟨0, xs.length, rfl, rfl, Nat.zero_le _, Nat.le_refl _, by omega, Lib.hid (bsIn_start _ _ _), below_alloc (Below.refl _ _) _, by simp, by go_simp, by go_simp⟩
  case round =>
    obtain ⟨lo, hi, rfl, rfl, hlh, hin, hg, HI, hB, hlt0, k0, k1⟩ := hrel
    by_cases hlt : lo < hi
    · obtain ⟨m, hm, hmi⟩ : ∃ m : Nat, lo ≤ m ∧ m < hi ∧ ((lo : Int) + (hi : Int)) / 2 = (m : Int) := ⟨(lo + hi) / 2, by omega, by omega, by omega⟩
      obtain ⟨hmi, hme⟩ := hmi
      have HE := Lib.hid hme
      clear hme
      obtain ⟨b, off, x, rfl, hx, c0, c1⟩ := (HR.out.below hB).lk m (by omega)
      have HB := Lib.hid hB
      clear hB
      have q3 : m < xs.length := by omega
      go_wp2
      rw [HE.out]
      refine wp_still_tail 6 (by kernel_rfl) (by kernel_rfl) ?_
      simp only [List.take_succ_cons, List.take_zero, List.drop_succ_cons, List.drop_zero]
      repeat still_step
      refine wpStill_nil ?_
      go_wp2_with fail
      refine calls_below (byNodes_any _ _ _ _ _) ?_
      intro w1 hb1
      have hB1 : Below w.heap.size w w1 := below_trans HB.out.drew hb1
      have HB1 := Lib.hid hB1
      have hsz : w.heap.size < w1.heap.size := Nat.lt_of_lt_of_le hlt0 hb1.size
      have k0' : w1.cell? ⟨w.heap.size, 0, none⟩ = some (.int .i64 y.a) := (hb1.cell (p := ⟨w.heap.size, 0, none⟩) hlt0).trans k0
      have k1' : w1.cell? ⟨w.heap.size, 1, none⟩ = some (.int .i64 y.b) := (hb1.cell (p := ⟨w.heap.size, 1, none⟩) hlt0).trans k1
      clear hB1 hb1
      by_cases hn : lkCmp x y < 0
      · have hn1 : linkCmp x.a x.b y.a y.b < 0 := hn
        go_wp2
        go_roundg (hi - (m + 1))
        case measure => omega
        case rel => exact ⟨m + 1, hi, by go_num, rfl, by omega, hin, Nat.le_refl _, Lib.hid (bsIn_lo HI.out hx.out hn), HB1.out, hsz, k0', k1'⟩
      · have hn1 : ¬ linkCmp x.a x.b y.a y.b < 0 := hn
        go_wp2
        go_roundg (m - lo)
        case measure => omega
        case rel => exact ⟨lo, m, rfl, by go_num, by omega, by omega, Nat.le_refl _, Lib.hid (bsIn_hi HI.out hx.out (by omega)), HB1.out, hsz, k0', k1'⟩
    · obtain rfl : hi = lo := by omega
      by_cases hn : hi < xs.length
      · obtain ⟨b, off, x, rfl, hx, c0, c1⟩ := (HR.out.below hB).lk hi (by omega)
        have HB := Lib.hid hB
        clear hB
        go_wp2
        refine wp_mix [(0, true), (1, true), (2, true), (3, true), (4, true), (5, true), (6, true), (7, true), (8, true), (9, true), (10, true), (11, false), (12, true), (13, true), (14, true)] 15
          (fun w' => Below wr.heap.size wr w')
          (by kernel_rfl) (by kernel_rfl) (by kernel_rfl) (by kernel_rfl) (by kernel_rfl) (fun d _ _ _ _ h => by cases d <;> exact h) (Below.refl _ _).drew ?_
        simp only [pick, List.map_cons, List.map_nil, List.getD_cons_zero, List.getD_cons_succ, List.drop_succ_cons, List.drop_zero]
        have hbx := World.block_lt_of_cell? wr _ c0
        simp only at hbx
        iterate 11
          apply mix_take
          case hw => rfl
          case hy => intro W hW; obtain ⟨hwc, -⟩ := bcell hW; go_simp; try rfl
          simp only [Act.put, List.setIfInBounds_toArray, List.set_cons_zero, List.set_cons_succ]
        refine mix_do fun K' hK' => ?_
        go_wp2_with fail
        refine calls_below (byNodes_any _ _ _ _ _) ?_
        intro w1 hb1
        go_wp2
        refine hK' _ _ (below_trans (Below.refl _ wr).drew hb1) ?_
        clear hK' K'
        iterate 3
          apply mix_take
          case hw => rfl
          case hy => intro W hW; go_simp; try rfl
          simp only [Act.put, List.setIfInBounds_toArray, List.set_cons_zero, List.set_cons_succ]
        refine mix_nil ?_
        go_wp2
        go_ret2
        exact ⟨hi, by simp [found_some hx.out, lkCmp]; rfl, ⟨hin, HI.out.1, HI.out.2⟩, below_trans HB.out.drew hb1⟩
      · have HB := Lib.hid hB
        clear hB
        go_wp2
        refine wp_mix [(0, true), (1, true), (2, true), (3, true), (4, true), (5, true), (6, true), (7, true), (8, true), (9, true), (10, true), (11, true), (12, true), (13, true), (14, true)] 15
          (fun w' => True)
          (by kernel_rfl) (by kernel_rfl) (by kernel_rfl) (by kernel_rfl) (by kernel_rfl) (fun d _ _ _ _ h => by cases d <;> exact h) trivial ?_
        simp only [pick, List.map_cons, List.map_nil, List.getD_cons_zero, List.getD_cons_succ, List.drop_succ_cons, List.drop_zero]
        iterate 5
          apply mix_take
          case hw => rfl
          case hy => intro W hW; go_simp; try rfl
          simp only [Act.put, List.setIfInBounds_toArray, List.set_cons_zero, List.set_cons_succ]
        iterate 8
          apply mix_skip
          case hw => simp [Region.wanted, yielded, hn]
          simp only [Act.put, List.setIfInBounds_toArray, List.set_cons_zero, List.set_cons_succ]
        iterate 2
          apply mix_take
          case hw => rfl
          case hy => intro W hW; go_simp; try rfl
          simp only [Act.put, List.setIfInBounds_toArray, List.set_cons_zero, List.set_cons_succ]
        refine mix_nil ?_
        go_wp2
        go_ret2
        exact ⟨hi, by simp [found_none (by omega : xs.length ≤ hi)], ⟨hin, HI.out.1, HI.out.2⟩, HB.out.drew⟩
-- END LINK
set_option maxHeartbeats 2000000 in
set_option maxRecDepth 100000 in
theorem BsT_any (A : Option Addr) (c : Nat) (xs : List Tm) (y : Tm) (w : World) (hl : xs.length ≤ 4611686018427387903) (hR : Rd w A xs) :
    Calls Tryz.prog 103 #[.slice A xs.length c, .agg #[.int .i64 y.t, .int .i64 y.node, .int .i64 y.tag], .func (.func 104) #[] #[]] w fun e w' =>
      ∃ p : Nat, e = .returned (.tuple #[.int .i64 p, .bool (foundF tmCmp xs p y)]) ∧ bsAt tmCmp xs p y ∧ Below w.heap.size w w' := by
  have HR := Lib.hid hR
  clear hR
  go_enter Tryz.func103, Tryz.ntmps103
  go_wp2
  go_loopg [9, 10] xs.length (fun kx s9 s10 wr => ∃ lo hi : Nat, s9 = .int .i64 lo ∧ s10 = .int .i64 hi ∧ lo ≤ hi ∧ hi ≤ xs.length ∧ hi - lo ≤ kx ∧ Hid (bsIn tmCmp xs lo hi y) ∧
    Below w.heap.size w wr ∧ w.heap.size < wr.heap.size ∧ wr.cell? ⟨w.heap.size, 0, none⟩ = some (.int .i64 y.t) ∧ wr.cell? ⟨w.heap.size, 1, none⟩ = some (.int .i64 y.node) ∧ wr.cell? ⟨w.heap.size, 2, none⟩ = some (.int .i64 y.tag))
  case atStart => exact ⟨0, xs.length, rfl, rfl, Nat.zero_le _, Nat.le_refl _, by omega, Lib.hid (bsIn_start _ _ _), below_alloc (Below.refl _ _) _, by simp, by go_simp, by go_simp, by go_simp⟩
  case round =>
    obtain ⟨lo, hi, rfl, rfl, hlh, hin, hg, HI, hB, hlt0, k0, k1, k2⟩ := hrel
    by_cases hlt : lo < hi
    · obtain ⟨m, hm, hmi⟩ : ∃ m : Nat, lo ≤ m ∧ m < hi ∧ ((lo : Int) + (hi : Int)) / 2 = (m : Int) := ⟨(lo + hi) / 2, by omega, by omega, by omega⟩
      obtain ⟨hmi, hme⟩ := hmi
      have HE := Lib.hid hme
      clear hme
      obtain ⟨b, off, x, rfl, hx, c0, c1, c2⟩ := (HR.out.below hB).tm m (by omega)
      have HB := Lib.hid hB
      clear hB
      have q3 : m < xs.length := by omega
      go_wp2
      rw [HE.out]
      refine wp_still_tail 6 (by kernel_rfl) (by kernel_rfl) ?_
      simp only [List.take_succ_cons, List.take_zero, List.drop_succ_cons, List.drop_zero]
      repeat still_step
      refine wpStill_nil ?_
      go_wp2_with fail
      refine calls_below (order_any _ _ _ _ _ _ _) ?_
      intro w1 hb1
      have hB1 : Below w.heap.size w w1 := below_trans HB.out.drew hb1
      have HB1 := Lib.hid hB1
      have hsz : w.heap.size < w1.heap.size := Nat.lt_of_lt_of_le hlt0 hb1.size
      have k0' : w1.cell? ⟨w.heap.size, 0, none⟩ = some (.int .i64 y.t) := (hb1.cell (p := ⟨w.heap.size, 0, none⟩) hlt0).trans k0
      have k1' : w1.cell? ⟨w.heap.size, 1, none⟩ = some (.int .i64 y.node) := (hb1.cell (p := ⟨w.heap.size, 1, none⟩) hlt0).trans k1
      have k2' : w1.cell? ⟨w.heap.size, 2, none⟩ = some (.int .i64 y.tag) := (hb1.cell (p := ⟨w.heap.size, 2, none⟩) hlt0).trans k2
      clear hB1 hb1
      by_cases hn : tmCmp x y < 0
      · have hn1 : timerCmp x.t x.node x.tag y.t y.node y.tag < 0 := hn
        go_wp2
        go_roundg (hi - (m + 1))
        case measure => omega
        case rel => exact ⟨m + 1, hi, by go_num, rfl, by omega, hin, Nat.le_refl _, Lib.hid (bsIn_lo HI.out hx.out hn), HB1.out, hsz, k0', k1', k2'⟩
      · have hn1 : ¬ timerCmp x.t x.node x.tag y.t y.node y.tag < 0 := hn
        go_wp2
        go_roundg (m - lo)
        case measure => omega
        case rel => exact ⟨lo, m, rfl, by go_num, by omega, by omega, Nat.le_refl _, Lib.hid (bsIn_hi HI.out hx.out (by omega)), HB1.out, hsz, k0', k1', k2'⟩
    · obtain rfl : hi = lo := by omega
      by_cases hn : hi < xs.length
      · obtain ⟨b, off, x, rfl, hx, c0, c1, c2⟩ := (HR.out.below hB).tm hi (by omega)
        have HB := Lib.hid hB
        clear hB
        go_wp2
        refine wp_mix [(0, true), (1, true), (2, true), (3, true), (4, true), (5, true), (6, true), (7, true), (8, true), (9, true), (10, true), (11, false), (12, true), (13, true), (14, true)] 15
          (fun w' => Below wr.heap.size wr w')
          (by kernel_rfl) (by kernel_rfl) (by kernel_rfl) (by kernel_rfl) (by kernel_rfl) (fun d _ _ _ _ h => by cases d <;> exact h) (Below.refl _ _).drew ?_
        simp only [pick, List.map_cons, List.map_nil, List.getD_cons_zero, List.getD_cons_succ, List.drop_succ_cons, List.drop_zero]
        have hbx := World.block_lt_of_cell? wr _ c0
        simp only at hbx
        iterate 11
          apply mix_take
          case hw => rfl
          case hy => intro W hW; obtain ⟨hwc, -⟩ := bcell hW; go_simp; try rfl
          simp only [Act.put, List.setIfInBounds_toArray, List.set_cons_zero, List.set_cons_succ]
        refine mix_do fun K' hK' => ?_
        go_wp2_with fail
        refine calls_below (order_any _ _ _ _ _ _ _) ?_
        intro w1 hb1
        go_wp2
        refine hK' _ _ (below_trans (Below.refl _ wr).drew hb1) ?_
        clear hK' K'
        iterate 3
          apply mix_take
          case hw => rfl
          case hy => intro W hW; go_simp; try rfl
          simp only [Act.put, List.setIfInBounds_toArray, List.set_cons_zero, List.set_cons_succ]
        refine mix_nil ?_
        go_wp2
        go_ret2
        exact ⟨hi, by simp [found_some hx.out, tmCmp]; rfl, ⟨hin, HI.out.1, HI.out.2⟩, below_trans HB.out.drew hb1⟩
      · have HB := Lib.hid hB
        clear hB
        go_wp2
        refine wp_mix [(0, true), (1, true), (2, true), (3, true), (4, true), (5, true), (6, true), (7, true), (8, true), (9, true), (10, true), (11, true), (12, true), (13, true), (14, true)] 15
          (fun w' => True)
          (by kernel_rfl) (by kernel_rfl) (by kernel_rfl) (by kernel_rfl) (by kernel_rfl) (fun d _ _ _ _ h => by cases d <;> exact h) trivial ?_
        simp only [pick, List.map_cons, List.map_nil, List.getD_cons_zero, List.getD_cons_succ, List.drop_succ_cons, List.drop_zero]
        iterate 5
          apply mix_take
          case hw => rfl
          case hy => intro W hW; go_simp; try rfl
          simp only [Act.put, List.setIfInBounds_toArray, List.set_cons_zero, List.set_cons_succ]
        iterate 8
          apply mix_skip
          case hw => simp [Region.wanted, yielded, hn]
          simp only [Act.put, List.setIfInBounds_toArray, List.set_cons_zero, List.set_cons_succ]
        iterate 2
          apply mix_take
          case hw => rfl
          case hy => intro W hW; go_simp; try rfl
          simp only [Act.put, List.setIfInBounds_toArray, List.set_cons_zero, List.set_cons_succ]
        refine mix_nil ?_
        go_wp2
        go_ret2
        exact ⟨hi, by simp [found_none (by omega : xs.length ≤ hi)], ⟨hin, HI.out.1, HI.out.2⟩, HB.out.drew⟩
end Go.Proofs.YthlbmcfliejdiaaGreat
end

section
set_option linter.unusedVariables false
set_option linter.unusedSimpArgs false
namespace Go.Proofs.YthlbmcfliejdiaaGreat
open Go.RowKit

def insAt {α : Type} (xs : List α) (i : Nat) (y : α) : List α := xs.take i ++ y :: xs.drop i
theorem insAt_end {α : Type} (xs : List α) (y : α) : insAt xs xs.length y = xs ++ [y] := by simp [insAt]
theorem insAt_length {α : Type} (xs : List α) (i : Nat) (y : α) (h : i ≤ xs.length) : (insAt xs i y).length = xs.length + 1 := by simp [insAt]; omega

theorem seg_put (l E D : List Value) (p q r : Nat) (hE : E.length = q) (hD : D.length = r) (h : p + q + r ≤ l.length) :
    ((((l.take (p + q) ++ D ++ l.drop (p + q + D.length)).take p ++ E ++ (l.take (p + q) ++ D ++ l.drop (p + q + D.length)).drop (p + E.length)).take (p + q + r)) = l.take p ++ E ++ D) ∧
      ((l.take (p + q) ++ D ++ l.drop (p + q + D.length)).take p ++ E ++ (l.take (p + q) ++ D ++ l.drop (p + q + D.length)).drop (p + E.length)).length = l.length := by
  subst hE hD
  constructor
  · apply List.ext_getElem?
    intro j
    simp only [List.getElem?_take, List.getElem?_append, List.length_append, List.length_take, List.length_drop, List.getElem?_drop]
    grind
  · simp; omega
theorem seg_put2 (l E D : List Value) (p q r : Nat) (hE : E.length = q) (hD : D.length = r) (h : p + q + r ≤ l.length) :
    ((((l.take p ++ E ++ l.drop (p + E.length)).take (p + q) ++ D ++ (l.take p ++ E ++ l.drop (p + E.length)).drop (p + q + D.length)).take (p + q + r)) = l.take p ++ E ++ D) ∧
      ((l.take p ++ E ++ l.drop (p + E.length)).take (p + q) ++ D ++ (l.take p ++ E ++ l.drop (p + E.length)).drop (p + q + D.length)).length = l.length := by
  subst hE hD
  constructor
  · apply List.ext_getElem?
    intro j
    simp only [List.getElem?_take, List.getElem?_append, List.length_append, List.length_take, List.length_drop, List.getElem?_drop]
    grind
  · simp; omega

theorem run_copyE {P : Program} (w : World) (dT sT ty elem : TypeId) (size g o dLen dCap : Nat) (a : Addr) (sLen sCap : Nat) (cur : Array Value) (t : TypeId) (cs : List Value)
    (hu : P.underlying dT = some (.slice elem)) (hs : (P.info? elem).map (·.size) = some size)
    (hg : w.heap[g]? = some (.cells cur t (0, 0))) (hn : cs.length = Nat.min sLen dLen * size)
    (hsrc : ∀ j v, cs[j]? = some v → w.cell? (a.add j) = some v) (hfit : o + cs.length ≤ cur.size) (h1 : ∀ v ∈ cs, v.oneCell' = true) :
    (Builtin.copy_ #[dT, sT] ty #[.slice (some ⟨g, o, none⟩) dLen dCap, .slice (some a) sLen sCap]).run P w =
      .ok (goInt (Nat.min sLen dLen)) (w.setRow g (cur.toList.take o ++ cs ++ cur.toList.drop (o + cs.length)).toArray) := by
  have hl := run_loadCells_list (P := P) w a cs hsrc
  have hst := run_storeCells_at P g o t cs 0 cur w hg (by simpa using hfit) h1
  cases hq : P.info? elem with
  | none => simp [hq] at hs
  | some i =>
    have hi : i.size = size := by simpa [hq] using hs
    simp [Builtin.copy_, run_underlying hu, Builtin.lenOf, Builtin.firstCells, sizeOf, typeInfo, hq, hi, ← hn, hl, hst]

theorem add_lit (g o j : Nat) : (⟨g, o, none⟩ : Addr).add j = ⟨g, o + j, none⟩ := by unfold Addr.add; split <;> simp_all
theorem cells_grown {w w1 : World} {g vb k : Nat} {v : Value} (hg : w.grownBy w1 (some g)) (hne : vb ≠ g) (h : w.cell? ⟨vb, k, none⟩ = some v) : w1.cell? ⟨vb, k, none⟩ = some v := by
  rw [World.cell?_of_block (hg.block vb (World.block_lt_of_cell? w _ h) (by simpa using hne))]; exact h
theorem grown_setRow (w : World) (g : Nat) (cs : Array Value) : w.grownBy (w.setRow g cs) (some g) := ⟨rfl, rfl, rfl, by simp, fun j _ hne => setRow_other _ _ _ _ (by rintro rfl; exact hne rfl)⟩

/-- In place: what stands from i on goes one on, then y goes to i. -/
theorem Own.insert {α : Type} [Enc α] {P : Program} {W : World} {base : Nat} {t e : TypeId} {z : Value} {bytes : Nat} (ht : P.underlying t = some (.slice e)) (hinfo : (P.info? e).map (fun i => (i.zero, i.size, i.bytes)) = some (some z, Enc.sz α, bytes))
    {g n cap : Nat} {xs : List α} (HO : Own W base e (.slice (some ⟨g, 0, none⟩) n cap) xs) (i : Nat) (hi : i ≤ n) (hroom : n + 1 ≤ cap) (y : α) (vb : Nat) (hvb : vb ≠ g) (hy : ∀ k v, (Enc.enc y)[k]? = some v → W.cell? ⟨vb, k, none⟩ = some v) (c1 c2 c3 : Nat) :
    ∃ w1 w2, (∀ ty, (Builtin.copy_ #[t, t] ty #[.slice (some ⟨g, (i + 1) * Enc.sz α, none⟩) (n - i) c1, .slice (some ⟨g, i * Enc.sz α, none⟩) (n + 1 - i) c2]).run P W = .ok (goInt (n - i : Nat)) w1) ∧
      (∀ ty, (Builtin.copy_ #[t, t] ty #[.slice (some ⟨g, i * Enc.sz α, none⟩) (n + 1 - i) c3, .slice (some ⟨vb, 0, none⟩) 1 1]).run P w1 = .ok (goInt 1) w2) ∧
      Own w2 base e (.slice (some ⟨g, 0, none⟩) (n + 1) cap) (insAt xs i y) ∧ W.grownBy w2 (some g) := by
  obtain ⟨i0, hi0, hzz⟩ := Option.map_eq_some_iff.1 hinfo
  simp only [Prod.mk.injEq] at hzz
  obtain ⟨hz0, hz1, hz2⟩ := hzz
  have hsz : (P.info? e).map (·.size) = some (Enc.sz α) := by rw [hi0]; simp [hz1]
  have HR : Rd W (some ⟨g, 0, none⟩) xs := by
    obtain ⟨A, c, e, _, h⟩ := HO.slice
    cases e
    exact h
  obtain ⟨cur, hg, hl, hn, hm, hb, hs, htk⟩ := HO.open
  have hdl : (flat (xs.drop i)).length = (n - i) * Enc.sz α := by rw [flat_length, List.length_drop, hl]
  have hcap : (n + 1) * Enc.sz α ≤ cap * Enc.sz α := Nat.mul_le_mul_right _ hroom
  have hsum : i * Enc.sz α + Enc.sz α + (n - i) * Enc.sz α = (n + 1) * Enc.sz α := by
    rw [← Nat.succ_mul, ← Nat.add_mul]; congr 1; omega
  have h1 := fun ty => run_copyE (P := P) W t t ty e (Enc.sz α) g ((i + 1) * Enc.sz α) (n - i) c1 ⟨g, i * Enc.sz α, none⟩ (n + 1 - i) c2 cur e (flat (xs.drop i)) ht hsz hg
    (by rw [hdl, show Nat.min (n + 1 - i) (n - i) = n - i from by simp only [Nat.min_def]; split <;> omega])
    (fun j u hj => by
      rw [← flat_drop, List.getElem?_drop] at hj
      have := HR.cells' _ _ hj
      rw [Nat.zero_add] at this
      rw [add_lit]
      exact this) (by rw [hdl, hs, Nat.succ_mul]; omega) (flat_one _)
  rw [show Nat.min (n + 1 - i) (n - i) = n - i from by simp only [Nat.min_def]; split <;> omega] at h1
  have hg1 := setRow_heap W g cur (cur.toList.take ((i + 1) * Enc.sz α) ++ flat (xs.drop i) ++ cur.toList.drop ((i + 1) * Enc.sz α + (flat (xs.drop i)).length)).toArray e (0, 0) hg
  obtain ⟨hA, hB⟩ := seg_put cur.toList (Enc.enc y) (flat (xs.drop i)) (i * Enc.sz α) (Enc.sz α) ((n - i) * Enc.sz α) (Enc.len y) hdl (by rw [hsum]; simp; omega)
  rw [← Nat.succ_mul] at hA hB
  have h2 := fun ty => run_copyE (P := P) _ t t ty e (Enc.sz α) g (i * Enc.sz α) (n + 1 - i) c3 ⟨vb, 0, none⟩ 1 1 _ e (Enc.enc y) ht hsz hg1
    (by rw [Enc.len, show Nat.min 1 (n + 1 - i) = 1 from by simp only [Nat.min_def]; split <;> omega, Nat.one_mul])
    (fun j u hj => by
      rw [add_lit, Nat.zero_add]
      exact cells_grown (grown_setRow _ _ _) hvb (hy j u hj)) (by rw [Enc.len]; simp [hdl]; omega) (fun v hv => Enc.one y v hv)
  rw [show Nat.min 1 (n + 1 - i) = 1 from by simp only [Nat.min_def]; split <;> omega] at h2
  refine ⟨_, _, h1, h2, ?_, (grown_setRow _ _ _).trans (grown_setRow _ _ _)⟩
  have hil := insAt_length xs i y (by omega)
  rw [hl, ← hil]
  refine Own.mk' (setRow_heap _ _ _ _ _ _ hg1) (by omega) hm hb ?_ ?_
  · have := hB
    simp only [List.size_toArray]
    rw [this]; simpa using hs
  · rw [hil, ← hl, ← hsum]
    simp only [List.toList_toArray]
    rw [← Nat.succ_mul]
    rw [hA, insAt]
    rw [flat_append, ← flat_take, ← htk, List.take_take, Nat.min_eq_left (Nat.mul_le_mul_right _ hi)]
    simp [flat]
/-- No room: a new row: what stood ahead of i, y, what stood from i on. -/
theorem Own.insertGrown {α : Type} [Enc α] {P : Program} {W : World} {base : Nat} {t tn e : TypeId} {kn : IntKind} {z : Value} {bytes : Nat} (ht : P.underlying t = some (.slice e)) (htn : P.underlying tn = some (.int kn)) (hinfo : (P.info? e).map (fun i => (i.zero, i.size, i.bytes)) = some (some z, Enc.sz α, bytes))
    (hz : z.cells.size = Enc.sz α) (hs0 : 0 < Enc.sz α) (hb0 : 0 < bytes)
    {g n cap : Nat} {xs : List α} (HO : Own W base e (.slice (some ⟨g, 0, none⟩) n cap) xs) (i : Nat) (hi : i < n) (hroom : cap < n + 1) (hbase : base ≤ W.heap.size) (hl : (n + 1) * bytes ≤ 140737488355328) (y : α) (vb : Nat) (hy : ∀ k v, (Enc.enc y)[k]? = some v → W.cell? ⟨vb, k, none⟩ = some v) (hys : 0 < Enc.sz α) :
    ∃ G w1 w2 w3, n + 1 ≤ G ∧ G ≤ 9223372036854775807 ∧ (∀ ty, (Builtin.append_ #[t, tn] ty #[.slice (some ⟨g, 0, none⟩) i cap, .int .i64 ((n + 1 - i : Nat) : Int)]).run P W = .ok (.slice (some ⟨W.heap.size, 0, none⟩) (n + 1) G) w1) ∧
      (∀ ty c3, (Builtin.copy_ #[t, t] ty #[.slice (some ⟨W.heap.size, i * Enc.sz α, none⟩) (n + 1 - i) c3, .slice (some ⟨vb, 0, none⟩) 1 1]).run P w1 = .ok (goInt 1) w2) ∧
      (∀ ty c1 c2, (Builtin.copy_ #[t, t] ty #[.slice (some ⟨W.heap.size, (i + 1) * Enc.sz α, none⟩) (n - i) c1, .slice (some ⟨g, i * Enc.sz α, none⟩) (n - i) c2]).run P w2.drew = .ok (goInt (n - i : Nat)) w3) ∧
      Own w3 base e (.slice (some ⟨W.heap.size, 0, none⟩) (n + 1) G) (insAt xs i y) ∧ W.grownBy w3 (some g) := by
  obtain ⟨i0, hi0, hzz⟩ := Option.map_eq_some_iff.1 hinfo
  simp only [Prod.mk.injEq] at hzz
  obtain ⟨hz0, hz1, hz2⟩ := hzz
  have hsz : (P.info? e).map (·.size) = some (Enc.sz α) := by rw [hi0]; simp [hz1]
  have HR : Rd W (some ⟨g, 0, none⟩) xs := by
    obtain ⟨A, c, e, _, h⟩ := HO.slice
    cases e
    exact h
  have hglt : g < W.heap.size := (HO.lt g rfl).2
  obtain ⟨cur, hg, hl', hn, hm, hb, hs, htk⟩ := HO.open
  have hm' := hm
  simp only [maxLen] at hm'
  have hvlt : vb < W.heap.size := by
    have h0 : 0 < (Enc.enc y).length := by rw [Enc.len]; exact hs0
    exact World.block_lt_of_cell? W _ (hy 0 _ (List.getElem?_eq_getElem h0))
  have hold : (Builtin.firstCells i0.size i (.slice (some ⟨g, 0, none⟩) i cap)).run P W.drew = .ok (flat (xs.take i)).toArray W.drew := by
    rw [hz1]
    refine run_firstCells_some W.drew (Enc.sz α) i ⟨g, 0, none⟩ i cap (flat (xs.take i)) (by rw [flat_length, List.length_take]; congr 1; omega) (fun j u hj => ?_)
    rw [← flat_take, List.getElem?_take] at hj
    split at hj
    · exact HR.cells j u hj
    · cases hj
  have hk : i + (n + 1 - i) = n + 1 := by omega
  have hnb : n + 1 ≤ 140737488355328 := Nat.le_trans (Nat.le_mul_of_pos_right _ hb0) hl
  have hkb : (n + 1 - i) * i0.bytes ≤ (n + 1) * bytes := by rw [hz2]; exact Nat.mul_le_mul_right _ (by omega)
  have hlb : (n + 1) * i0.bytes ≤ 140737488355328 := by rw [hz2]; exact hl
  have hrz := fun ty => Lib.run_append_grow_zeros W t tn ty e i0 z .i64 kn ht htn hi0 hz0 (some ⟨g, 0, none⟩) i cap (flat (xs.take i)) hold (n + 1 - i) (by omega) (by rw [hz1]; exact hs0) (by omega) (by omega) (by omega) (by rw [hk]; exact growslice_fits hroom hlb)
  rw [hk] at hrz
  obtain ⟨G, hG⟩ : ∃ G, G = grownCap W (n + 1) cap e := ⟨_, rfl⟩
  have hGn : n + 1 ≤ G := by rw [hG]; exact grownCap_ge W _ _ _
  have hGm : G ≤ maxLen := by rw [hG]; exact grownCap_le_maxLen W (n + 1) cap e (by unfold maxLen; omega)
  have hGm' := hGm
  simp only [maxLen] at hGm'
  rw [← hG] at hrz
  obtain ⟨ROW, hROW⟩ : ∃ ROW : Array Value, ROW = (flat (xs.take i)).toArray ++ Builtin.zeroCells z.cells (n + 1 - i) ++ Builtin.zeroCells z.cells (G - (n + 1)) := ⟨_, rfl⟩
  rw [← hROW] at hrz
  have hRl : ROW.size = G * Enc.sz α := by
    rw [hROW]
    simp only [Array.size_append, List.size_toArray, flat_length, List.length_take, Builtin.zeroCells, Array.size_map, Array.size_range, hz]
    rw [← Nat.add_mul, ← Nat.add_mul]
    congr 1; omega
  have hRt : ROW.toList.take (i * Enc.sz α) = flat (xs.take i) := by
    have h0 : (flat (xs.take i)).length = i * Enc.sz α := by rw [flat_length, List.length_take]; congr 1; omega
    rw [hROW]
    simp only [Array.toList_append, List.append_assoc]
    rw [← h0, List.take_append]
    simp
  have hg1 : (W.drew.alloc (.cells ROW e)).heap[W.heap.size]? = some (.cells ROW e (0, 0)) := bl_new W.drew _
  have hdl : (flat (xs.drop i)).length = (n - i) * Enc.sz α := by rw [flat_length, List.length_drop, hl']
  have hcap : (n + 1) * Enc.sz α ≤ G * Enc.sz α := Nat.mul_le_mul_right _ hGn
  have hsum : i * Enc.sz α + Enc.sz α + (n - i) * Enc.sz α = (n + 1) * Enc.sz α := by
    rw [← Nat.succ_mul, ← Nat.add_mul]; congr 1; omega
  obtain ⟨hA, hB⟩ := seg_put2 ROW.toList (Enc.enc y) (flat (xs.drop i)) (i * Enc.sz α) (Enc.sz α) ((n - i) * Enc.sz α) (Enc.len y) hdl (by rw [hsum]; simp; omega)
  have h2 := fun ty c3 => run_copyE (P := P) _ t t ty e (Enc.sz α) W.heap.size (i * Enc.sz α) (n + 1 - i) c3 ⟨vb, 0, none⟩ 1 1 _ e (Enc.enc y) ht hsz hg1
    (by rw [Enc.len, show Nat.min 1 (n + 1 - i) = 1 from by simp only [Nat.min_def]; split <;> omega, Nat.one_mul])
    (fun j u hj => by
      rw [add_lit, Nat.zero_add]
      exact cell_below (below_alloc (Below.refl _ W).drew _) (hy j u hj)) (by rw [Enc.len, hRl]; omega) (fun v hv => Enc.one y v hv)
  rw [show Nat.min 1 (n + 1 - i) = 1 from by simp only [Nat.min_def]; split <;> omega] at h2
  have hg2 := setRow_heap _ W.heap.size _ (ROW.toList.take (i * Enc.sz α) ++ Enc.enc y ++ ROW.toList.drop (i * Enc.sz α + (Enc.enc y).length)).toArray e (0, 0) hg1
  have hgr : W.grownBy ((W.drew.alloc (.cells ROW e)).setRow W.heap.size (ROW.toList.take (i * Enc.sz α) ++ Enc.enc y ++ ROW.toList.drop (i * Enc.sz α + (Enc.enc y).length)).toArray).drew (some W.heap.size) := by
    have h0 : W.grownBy (W.drew.alloc (.cells ROW e)) (some W.heap.size) := grown_alloc (grown_drew (World.grownBy.refl W _)) _
    exact grown_drew (h0.trans (grown_setRow _ _ _))
  have h3 := fun ty c1 c2 => run_copyE (P := P) _ t t ty e (Enc.sz α) W.heap.size ((i + 1) * Enc.sz α) (n - i) c1 ⟨g, i * Enc.sz α, none⟩ (n - i) c2 _ e (flat (xs.drop i)) ht hsz (bl_drew hg2)
    (by rw [hdl, show Nat.min (n - i) (n - i) = n - i from by simp only [Nat.min_def]; split <;> omega])
    (fun j u hj => by
      rw [← flat_drop, List.getElem?_drop] at hj
      have := HR.cells' _ _ hj
      rw [Nat.zero_add] at this
      rw [add_lit]
      exact cells_grown hgr (by omega) this) (by
        simp only [List.size_toArray]
        simp only [List.length_append, List.length_take, List.length_drop, Array.length_toList, Enc.len, hdl, Nat.succ_mul, hRl]
        omega) (flat_one _)
  rw [show Nat.min (n - i) (n - i) = n - i from by simp only [Nat.min_def]; split <;> omega] at h3
  refine ⟨G, _, _, _, hGn, hGm', hrz, h2, h3, ?_, ?_⟩
  · have hil := insAt_length xs i y (by omega)
    rw [hl', ← hil]
    refine Own.mk' (setRow_heap _ _ _ _ _ _ (bl_drew hg2)) (by omega) hGm hbase ?_ ?_
    · simp only [List.size_toArray]
      rw [Nat.succ_mul, hB]
      simpa using hRl
    · rw [hil, ← hl', ← hsum]
      simp only [List.toList_toArray]
      rw [Nat.succ_mul, hA, insAt, flat_append, hRt]
      simp [flat]
  · have h4 := hgr.trans (grown_setRow _ W.heap.size (((ROW.toList.take (i * Enc.sz α) ++ Enc.enc y ++ ROW.toList.drop (i * Enc.sz α + (Enc.enc y).length)).take ((i + 1) * Enc.sz α) ++ flat (xs.drop i) ++ (ROW.toList.take (i * Enc.sz α) ++ Enc.enc y ++ ROW.toList.drop (i * Enc.sz α + (Enc.enc y).length)).drop ((i + 1) * Enc.sz α + (flat (xs.drop i)).length)).toArray))
    exact ⟨h4.os, h4.tape, h4.output, h4.size, fun k hk _ => h4.block k hk (by simp; omega)⟩
-- BEGIN LINK
set_option maxHeartbeats 2000000 in
set_option maxRecDepth 100000 in
theorem InsertC_any (v : Value) (i B vb : Nat) (t0 : TypeId) (xs : List Lk) (y : Lk) (w : World) (hi : i ≤ xs.length) (HO : Own w B 96 v xs) (hB : B ≤ w.heap.size) (hl : (xs.length + 1) * 16 ≤ 140737488355328) (hvb : v.ownBlock ≠ some vb)
    (hy : w.heap[vb]? = some (.cells #[.int .i64 y.a, .int .i64 y.b] t0 (0, 0))) :
    Calls Tryz.prog 100 #[v, .int .i64 i, .slice (some ⟨vb, 0, none⟩) 1 1] w fun e w' => ∃ v', e = .returned v' ∧ Own w' B 96 v' (insAt xs i y) ∧ w.grownBy w' v.ownBlock ∧ (v'.ownBlock = v.ownBlock ∨ v'.ownBlock = some w.heap.size) := by
  have hyc : ∀ k u, (Enc.enc y)[k]? = some u → w.cell? ⟨vb, k, none⟩ = some u := fun k u hk => by
    rw [bl_cell hy]
    simpa [Enc.enc] using hk
  have HY : Rd w (some ⟨vb, 0, none⟩) [y] := Rd.of_cells fun j u hj => by rw [Nat.zero_add]; exact hyc j u (by simpa [flat] using hj)
  have hl1 : ([y] : List Lk).length = 1 := rfl
  rcases HO.2 with ⟨rfl, h0⟩ | ⟨g, cap, cur, rfl, hb, hg, hn, hm, hs, ht⟩
  · have hx : xs = [] := List.eq_nil_of_length_eq_zero h0
    subst hx
    obtain rfl : i = 0 := by simpa using hi
    clear hyc
    go_enter Tryz.func100, Tryz.ntmps100
    go_wp2_with (at_builtin; refine wpList_app _ B rfl (.tmp 23) (.tmp 24) 23 96 _ 16 rfl Tryz.underlying23 infoC rfl (by decide) (by decide) _ [] [y] (some ⟨vb, 0, none⟩) 1 rfl rfl HO HY hB (by simp) ?_; intro v1 w1 ho1 hg1 hat1)
    go_ret
    exact ⟨_, rfl, by simpa [insAt] using ho1, hg1, hat1⟩
  · simp only [maxLen] at hm
    have hne : vb ≠ g := fun h => hvb (by rw [h]; rfl)
    have q1 : (0 : Int) ≤ (i : Int) := by omega
    have q2 : (i : Int) ≤ (xs.length : Int) := by omega
    have q3 : (xs.length : Int) ≤ (cap : Int) := by omega
    have q4 : IntKind.i64.wrap ((xs.length : Int) + 1) = (xs.length : Int) + 1 := IntWalk.i64_in _ (by omega)
    have q5 : IntKind.i64.wrap ((i : Int) + 1) = (i : Int) + 1 := IntWalk.i64_in _ (by omega)
    by_cases hend : i = xs.length
    · subst hend
      clear hyc
      go_enter Tryz.func100, Tryz.ntmps100
      go_wp2_with (at_builtin; refine wpList_app _ B rfl (.tmp 23) (.tmp 24) 23 96 _ 16 rfl Tryz.underlying23 infoC rfl (by decide) (by decide) _ xs [y] (some ⟨vb, 0, none⟩) 1 rfl rfl HO HY hB (by rw [hl1]; exact hl) ?_; intro v1 w1 ho1 hg1 hat1)
      all_goals
        go_ret
        exact ⟨_, rfl, by rw [insAt_end]; exact ho1, hg1, hat1⟩
    · have hlt : i < xs.length := by omega
      have r1 : ¬ (cap = i) := by omega
      have r2 : ¬ ((i : Int) = (xs.length : Int)) := by omega
      have r3 : (0 : Int) ≤ (xs.length : Int) + 1 := by omega
      have r4 : ((xs.length : Int) + 1).toNat = xs.length + 1 := by omega
      have r5 : (0 : Int) ≤ (i : Int) + 1 := by omega
      have r6 : ((i : Int) + 1).toNat = i + 1 := by omega
      have r7 : (i : Int) + 1 ≤ (xs.length : Int) + 1 := by omega
      have r8 : (i : Int) ≤ (xs.length : Int) + 1 := by omega
      have r9 : (i : Int) ≤ (cap : Int) := by omega
      by_cases hroom : xs.length + 1 ≤ cap
      · have s1 : ¬ ((cap : Int) < (xs.length : Int) + 1) := by omega
        have s2 : ¬ (cap = i + 1) := by omega
        have s3 : (xs.length : Int) + 1 ≤ (cap : Int) := by omega
        obtain ⟨w1, w2, hc1, hc2, HO2, hg2⟩ := Own.insert (P := Tryz.prog) (W := w.drew) (t := 23) Tryz.underlying23 infoC HO.drew i hi hroom y vb hne hyc (cap - (i + 1)) (cap - i) (cap - i)
        have hov : ∀ lb cb, (callFunc 117 #[.slice (some ⟨vb, 0, none⟩) 1 1, .slice (some ⟨g, (i + 1) * 2, none⟩) lb cb]).run Tryz.prog w = .ok (.value (.bool false)) w := fun lb cb => by
          rw [run_callFunc_extern Tryz.func117 (by kernel_rfl) (by kernel_rfl) (by kernel_rfl) (e := Extern.SlicesOverlaps.overlaps #[23, 23] #[4]) (by kernel_rfl),
            Lib.run_overlaps_apart w 23 4 96 Tryz.underlying23 2 (fun w => by kernel_rfl) ⟨vb, 0, none⟩ ⟨g, (i + 1) * 2, none⟩ 1 1 lb cb hne t0 96 2 cur.size (by simp [World.shape?, hy]) (by simp [World.shape?, hg]) (by rw [hs]; show cap * 2 ≠ 0; omega) (bl_frozen hy _) (bl_frozen hy _)]
          rfl
        have HC1 := Lib.hid hc1
        have HC2 := Lib.hid hc2
        clear hc1 hc2 hyc hy hg hs ht
        go_enter Tryz.func100, Tryz.ntmps100
        go_wp2_with (simp only [hov])
        refine wp_still_tail 8 (by kernel_rfl) (by kernel_rfl) ?_
        simp only [List.take_succ_cons, List.take_zero, List.drop_succ_cons, List.drop_zero]
        repeat still_step
        refine wpStill_nil ?_
        refine wpList_run_copy rfl (.tmp 73) (.tmp 76) 23 23 rfl _ _ rfl rfl (HC1.out _) ?_
        go_wp2_with (refine wpList_run_copy rfl (.tmp 80) (.tmp 81) 23 23 rfl _ _ rfl rfl (HC2.out _) ?_)
        all_goals
          go_ret
          exact ⟨_, rfl, HO2, grown_of_drew hg2, .inl rfl⟩
      · have s1 : (cap : Int) < (xs.length : Int) + 1 := by omega
        obtain ⟨G, w1, w2, w3, hG1, hG2, hc0, hc1, hc2, HO3, hg3⟩ := Own.insertGrown (P := Tryz.prog) (W := w) (t := 23) (tn := 3) (kn := .i64) Tryz.underlying23 Tryz.underlying3 infoC rfl (by decide) (by decide) HO i hlt (by omega) hB hl y vb hyc (by decide)
        have s4 : IntKind.i64.wrap ((xs.length : Int) + 1 - (i : Int)) = ((xs.length + 1 - i : Nat) : Int) := by rw [IntWalk.i64_in _ (by omega)]; omega
        have s5 : (i : Int) ≤ (G : Int) := by omega
        have s6 : ¬ (G = i) := by omega
        have s7 : ¬ (G = i + 1) := by omega
        have s8 : (xs.length : Int) + 1 ≤ (G : Int) := by omega
        have HC0 := Lib.hid hc0
        have HC1 := Lib.hid hc1
        have HC2 := Lib.hid hc2
        clear hc0 hc1 hc2 hyc hy hg hs ht
        go_enter Tryz.func100, Tryz.ntmps100
        have e1 : (Builtin.copy_ #[23, 23] 3 #[.slice (some ⟨w.heap.size, i * 2, none⟩) (xs.length + 1 - i) (G - i), .slice (some ⟨vb, 0, none⟩) 1 1]).run Tryz.prog w1 = .ok (goInt 1) w2 := HC1.out _ _
        go_wp2_with (at_builtin; refine wpList_run_append rfl (.tmp 34) (.tmp 39) 23 3 rfl _ _ rfl rfl (HC0.out _) ?_)
        refine wp_still_tail 8 (by kernel_rfl) (by kernel_rfl) ?_
        simp only [List.take_succ_cons, List.take_zero, List.drop_succ_cons, List.drop_zero]
        repeat still_step
        refine wpStill_nil ?_
        refine wpList_run_copy rfl (.tmp 50) (.tmp 53) 23 23 rfl _ _ rfl rfl (HC2.out _ _ _) ?_
        go_wp2
        go_ret
        exact ⟨_, rfl, HO3, hg3, .inr rfl⟩
-- END LINK
set_option maxHeartbeats 2000000 in
set_option maxRecDepth 100000 in
theorem InsertT_any (v : Value) (i B vb : Nat) (t0 : TypeId) (xs : List Tm) (y : Tm) (w : World) (hi : i ≤ xs.length) (HO : Own w B 86 v xs) (hB : B ≤ w.heap.size) (hl : (xs.length + 1) * 24 ≤ 140737488355328) (hvb : v.ownBlock ≠ some vb)
    (hy : w.heap[vb]? = some (.cells #[.int .i64 y.t, .int .i64 y.node, .int .i64 y.tag] t0 (0, 0))) :
    Calls Tryz.prog 105 #[v, .int .i64 i, .slice (some ⟨vb, 0, none⟩) 1 1] w fun e w' => ∃ v', e = .returned v' ∧ Own w' B 86 v' (insAt xs i y) ∧ w.grownBy w' v.ownBlock ∧ (v'.ownBlock = v.ownBlock ∨ v'.ownBlock = some w.heap.size) := by
  have hyc : ∀ k u, (Enc.enc y)[k]? = some u → w.cell? ⟨vb, k, none⟩ = some u := fun k u hk => by
    rw [bl_cell hy]
    simpa [Enc.enc] using hk
  have HY : Rd w (some ⟨vb, 0, none⟩) [y] := Rd.of_cells fun j u hj => by rw [Nat.zero_add]; exact hyc j u (by simpa [flat] using hj)
  have hl1 : ([y] : List Tm).length = 1 := rfl
  rcases HO.2 with ⟨rfl, h0⟩ | ⟨g, cap, cur, rfl, hb, hg, hn, hm, hs, ht⟩
  · have hx : xs = [] := List.eq_nil_of_length_eq_zero h0
    subst hx
    obtain rfl : i = 0 := by simpa using hi
    clear hyc
    go_enter Tryz.func105, Tryz.ntmps105
    go_wp2_with (at_builtin; refine wpList_app _ B rfl (.tmp 23) (.tmp 24) 24 86 _ 24 rfl Tryz.underlying24 infoT rfl (by decide) (by decide) _ [] [y] (some ⟨vb, 0, none⟩) 1 rfl rfl HO HY hB (by simp) ?_; intro v1 w1 ho1 hg1 hat1)
    go_ret
    exact ⟨_, rfl, by simpa [insAt] using ho1, hg1, hat1⟩
  · simp only [maxLen] at hm
    have hne : vb ≠ g := fun h => hvb (by rw [h]; rfl)
    have q1 : (0 : Int) ≤ (i : Int) := by omega
    have q2 : (i : Int) ≤ (xs.length : Int) := by omega
    have q3 : (xs.length : Int) ≤ (cap : Int) := by omega
    have q4 : IntKind.i64.wrap ((xs.length : Int) + 1) = (xs.length : Int) + 1 := IntWalk.i64_in _ (by omega)
    have q5 : IntKind.i64.wrap ((i : Int) + 1) = (i : Int) + 1 := IntWalk.i64_in _ (by omega)
    by_cases hend : i = xs.length
    · subst hend
      clear hyc
      go_enter Tryz.func105, Tryz.ntmps105
      go_wp2_with (at_builtin; refine wpList_app _ B rfl (.tmp 23) (.tmp 24) 24 86 _ 24 rfl Tryz.underlying24 infoT rfl (by decide) (by decide) _ xs [y] (some ⟨vb, 0, none⟩) 1 rfl rfl HO HY hB (by rw [hl1]; exact hl) ?_; intro v1 w1 ho1 hg1 hat1)
      all_goals
        go_ret
        exact ⟨_, rfl, by rw [insAt_end]; exact ho1, hg1, hat1⟩
    · have hlt : i < xs.length := by omega
      have r1 : ¬ (cap = i) := by omega
      have r2 : ¬ ((i : Int) = (xs.length : Int)) := by omega
      have r3 : (0 : Int) ≤ (xs.length : Int) + 1 := by omega
      have r4 : ((xs.length : Int) + 1).toNat = xs.length + 1 := by omega
      have r5 : (0 : Int) ≤ (i : Int) + 1 := by omega
      have r6 : ((i : Int) + 1).toNat = i + 1 := by omega
      have r7 : (i : Int) + 1 ≤ (xs.length : Int) + 1 := by omega
      have r8 : (i : Int) ≤ (xs.length : Int) + 1 := by omega
      have r9 : (i : Int) ≤ (cap : Int) := by omega
      by_cases hroom : xs.length + 1 ≤ cap
      · have s1 : ¬ ((cap : Int) < (xs.length : Int) + 1) := by omega
        have s2 : ¬ (cap = i + 1) := by omega
        have s3 : (xs.length : Int) + 1 ≤ (cap : Int) := by omega
        obtain ⟨w1, w2, hc1, hc2, HO2, hg2⟩ := Own.insert (P := Tryz.prog) (W := w.drew) (t := 24) Tryz.underlying24 infoT HO.drew i hi hroom y vb hne hyc (cap - (i + 1)) (cap - i) (cap - i)
        have hov : ∀ lb cb, (callFunc 121 #[.slice (some ⟨vb, 0, none⟩) 1 1, .slice (some ⟨g, (i + 1) * 3, none⟩) lb cb]).run Tryz.prog w = .ok (.value (.bool false)) w := fun lb cb => by
          rw [run_callFunc_extern Tryz.func121 (by kernel_rfl) (by kernel_rfl) (by kernel_rfl) (e := Extern.SlicesOverlaps.overlaps #[24, 24] #[4]) (by kernel_rfl),
            Lib.run_overlaps_apart w 24 4 86 Tryz.underlying24 3 (fun w => by kernel_rfl) ⟨vb, 0, none⟩ ⟨g, (i + 1) * 3, none⟩ 1 1 lb cb hne t0 86 3 cur.size (by simp [World.shape?, hy]) (by simp [World.shape?, hg]) (by rw [hs]; show cap * 3 ≠ 0; omega) (bl_frozen hy _) (bl_frozen hy _)]
          rfl
        have HC1 := Lib.hid hc1
        have HC2 := Lib.hid hc2
        clear hc1 hc2 hyc hy hg hs ht
        go_enter Tryz.func105, Tryz.ntmps105
        go_wp2_with (simp only [hov])
        refine wp_still_tail 8 (by kernel_rfl) (by kernel_rfl) ?_
        simp only [List.take_succ_cons, List.take_zero, List.drop_succ_cons, List.drop_zero]
        repeat still_step
        refine wpStill_nil ?_
        refine wpList_run_copy rfl (.tmp 73) (.tmp 76) 24 24 rfl _ _ rfl rfl (HC1.out _) ?_
        go_wp2_with (refine wpList_run_copy rfl (.tmp 80) (.tmp 81) 24 24 rfl _ _ rfl rfl (HC2.out _) ?_)
        all_goals
          go_ret
          exact ⟨_, rfl, HO2, grown_of_drew hg2, .inl rfl⟩
      · have s1 : (cap : Int) < (xs.length : Int) + 1 := by omega
        obtain ⟨G, w1, w2, w3, hG1, hG2, hc0, hc1, hc2, HO3, hg3⟩ := Own.insertGrown (P := Tryz.prog) (W := w) (t := 24) (tn := 3) (kn := .i64) Tryz.underlying24 Tryz.underlying3 infoT rfl (by decide) (by decide) HO i hlt (by omega) hB hl y vb hyc (by decide)
        have s4 : IntKind.i64.wrap ((xs.length : Int) + 1 - (i : Int)) = ((xs.length + 1 - i : Nat) : Int) := by rw [IntWalk.i64_in _ (by omega)]; omega
        have s5 : (i : Int) ≤ (G : Int) := by omega
        have s6 : ¬ (G = i) := by omega
        have s7 : ¬ (G = i + 1) := by omega
        have s8 : (xs.length : Int) + 1 ≤ (G : Int) := by omega
        have HC0 := Lib.hid hc0
        have HC1 := Lib.hid hc1
        have HC2 := Lib.hid hc2
        clear hc0 hc1 hc2 hyc hy hg hs ht
        go_enter Tryz.func105, Tryz.ntmps105
        have e1 : (Builtin.copy_ #[24, 24] 3 #[.slice (some ⟨w.heap.size, i * 3, none⟩) (xs.length + 1 - i) (G - i), .slice (some ⟨vb, 0, none⟩) 1 1]).run Tryz.prog w1 = .ok (goInt 1) w2 := HC1.out _ _
        go_wp2_with (at_builtin; refine wpList_run_append rfl (.tmp 34) (.tmp 39) 24 3 rfl _ _ rfl rfl (HC0.out _) ?_)
        refine wp_still_tail 8 (by kernel_rfl) (by kernel_rfl) ?_
        simp only [List.take_succ_cons, List.take_zero, List.drop_succ_cons, List.drop_zero]
        repeat still_step
        refine wpStill_nil ?_
        refine wpList_run_copy rfl (.tmp 50) (.tmp 53) 24 24 rfl _ _ rfl rfl (HC2.out _ _ _) ?_
        go_wp2
        go_ret
        exact ⟨_, rfl, HO3, hg3, .inr rfl⟩
end Go.Proofs.YthlbmcfliejdiaaGreat
end

section
set_option linter.unusedVariables false
set_option linter.unusedSimpArgs false
namespace Go.Proofs.YthlbmcfliejdiaaGreat
open Go.RowKit

def ixF {α : Type} (p : α → Bool) : List α → Int → Int
  | [], _ => -1
  | x :: r, k => if p x then k else ixF p r (k + 1)
def isTm (nd tg : Int) (t : Tm) : Bool := decide (t.node = nd) && decide (t.tag = tg)

set_option maxHeartbeats 400000 in
theorem isTm_any (t : Tm) (a b : Nat) (nd tg : Int) (w : World) (ha : w.cell? ⟨a, 0, none⟩ = some (.int .i64 nd)) (hb : w.cell? ⟨b, 0, none⟩ = some (.int .i64 tg)) :
    Calls Tryz.prog 120 #[.agg #[.int .i64 t.t, .int .i64 t.node, .int .i64 t.tag], .pointer (some ⟨a, 0, none⟩), .pointer (some ⟨b, 0, none⟩)] w fun e w' => e = .returned (.bool (isTm nd tg t)) ∧ Below w.heap.size w w' := by
  have ha1 := World.block_lt_of_cell? w _ ha
  have hb1 := World.block_lt_of_cell? w _ hb
  simp only at ha1 hb1
  by_cases h : t.node = nd
  · have h1 : (t.node == nd) = true := by simp [h]
    have H := Lib.hid h
    clear h
    by_cases h2 : t.tag = tg
    · have h3 : (t.tag == tg) = true := by simp [h2]
      have H2 := Lib.hid h2
      clear h2
      go_enter Tryz.func120, Tryz.ntmps120
      go_wp2
      go_ret
      exact ⟨ret_bool (by simp [isTm, H.out, H2.out]), below_alloc (Below.refl _ _) _⟩
    · have h3 : (t.tag == tg) = false := by simp [h2]
      have H2 := Lib.hid h2
      clear h2
      go_enter Tryz.func120, Tryz.ntmps120
      go_wp2
      go_ret
      exact ⟨ret_bool (by simp [isTm, H2.out]), below_alloc (Below.refl _ _) _⟩
  · have h1 : (t.node == nd) = false := by simp [h]
    have H := Lib.hid h
    clear h
    go_enter Tryz.func120, Tryz.ntmps120
    go_wp2
    go_ret
    exact ⟨ret_bool (by simp [isTm, H.out]), below_alloc (Below.refl _ _) _⟩

set_option maxHeartbeats 1000000 in
set_option maxRecDepth 100000 in
theorem IndexFuncT_any (A : Option Addr) (c : Nat) (xs : List Tm) (a b : Nat) (nd tg : Int) (w : World) (hl : xs.length ≤ 9223372036854775807) (hR : Rd w A xs) (ha : w.cell? ⟨a, 0, none⟩ = some (.int .i64 nd)) (hb : w.cell? ⟨b, 0, none⟩ = some (.int .i64 tg)) :
    Calls Tryz.prog 119 #[.slice A xs.length c, .func (.func 120) #[] #[.pointer (some ⟨a, 0, none⟩), .pointer (some ⟨b, 0, none⟩)]] w fun e w' => e = .returned (.int .i64 (ixF (isTm nd tg) xs 0)) ∧ Below w.heap.size w w' := by
  have HR := Lib.hid hR
  have HA := Lib.hid ha
  have HB := Lib.hid hb
  clear hR ha hb
  go_enter Tryz.func119, Tryz.ntmps119
  go_wp2
  go_loopw [8] (fun i wr => ∃ k : Nat, k ≤ xs.length ∧ i = .int .i64 (k : Int) ∧ Hid (ixF (isTm nd tg) xs 0 = ixF (isTm nd tg) (xs.drop k) k) ∧ Below w.heap.size w wr) (fun i _ => xs.length - (intOf i).toNat)
  case atStart => exact ⟨0, Nat.zero_le _, rfl, rfl, Below.refl _ _⟩
  case round =>
    obtain ⟨k, hk, rfl, ho, hB⟩ := hrel
    by_cases hlt : k < xs.length
    · obtain ⟨b', off, x, rfl, hx, h10, h11, h12⟩ := (HR.out.below hB).tm k hlt
      have hd : Hid (ixF (isTm nd tg) (xs.drop k) k = if isTm nd tg x then (k : Int) else ixF (isTm nd tg) (xs.drop (k + 1)) (k + 1)) := by
        show _ = _
        rw [drop_at hx, ixF]
      have HBB := Lib.hid hB
      clear hB
      by_cases hp : isTm nd tg x = true
      · have HP := Lib.hid hp
        clear hp
        go_wp2_with (go_at_call 120; refine calls_below (isTm_any x a b nd tg _ (cell_below HBB.out HA.out) (cell_below HBB.out HB.out)) ?_; intro w1 hb1; rw [HP.out])
        go_ret
        exact ⟨ret_int (by rw [ho.out, hd.out, if_pos HP.out]), below_trans HBB.out hb1⟩
      · have hp' : isTm nd tg x = false := by simpa using hp
        have HP := Lib.hid hp'
        clear hp hp'
        go_wp2_with (go_at_call 120; refine calls_below (isTm_any x a b nd tg _ (cell_below HBB.out HA.out) (cell_below HBB.out HB.out)) ?_; intro w1 hb1; rw [HP.out])
        go_roundw
        case rel => exact ⟨k + 1, by omega, by go_num, by show _ = _; rw [ho.out, hd.out, HP.out]; simp, below_trans HBB.out hb1⟩
        case measure => simp [intOf]; omega
    · have hd : Hid (ixF (isTm nd tg) (xs.drop k) k = -1) := by
        show _ = _
        rw [List.drop_of_length_le (by omega)]; rfl
      go_wp2
      go_ret
      exact ⟨ret_int (by rw [ho.out, hd.out]), hB⟩

set_option maxHeartbeats 1000000 in
set_option maxRecDepth 100000 in
theorem timer_any (B g : Nat) (x : Nt) (nd tg : Int) (w : World) (hS : St w B g x) (hl : x.timers.length ≤ 9223372036854775807) : Calls Tryz.prog 102 #[.pointer (some ⟨g, 0, none⟩), .int .i64 nd, .int .i64 tg] w fun e w' => e = .returned (.int .i64 (ixF (isTm nd tg) x.timers 0)) ∧ Below w.heap.size w w' := by
  obtain ⟨AW, cW, AC, cC, AT, cT, hg, hB, oW, oC, oT⟩ := hS.open
  have k5 := bl_cell hg 5
  simp at k5
  have hlt := bl_lt hg
  have hl1 : g < w.heap.size + 1 := by omega
  have HR : Hid (Rd w AT x.timers) := by
    obtain ⟨A, c, e, _, h⟩ := oT.slice
    cases e
    exact h
  clear hg oW oC oT
  go_enter Tryz.func102, Tryz.ntmps102
  go_wp2_with (go_at_call 119; refine calls_below (IndexFuncT_any AT cT x.timers w.heap.size (w.heap.size + 1) nd tg _ hl (HR.out.below (below_alloc (below_alloc (Below.refl _ _) _) _)) (by go_simp) (by go_simp)) ?_; intro w1 hb1)
  go_ret
  exact ⟨rfl, below_trans (below_alloc (below_alloc (Below.refl _ _) _) _) hb1⟩

end Go.Proofs.YthlbmcfliejdiaaGreat
end

section
set_option linter.unusedVariables false
set_option linter.unusedSimpArgs false
namespace Go.Proofs.YthlbmcfliejdiaaGreat
open Go.RowKit

-- BEGIN TWO
set_option maxHeartbeats 1000000 in
set_option maxRecDepth 100000 in
theorem cut_arg (B g : Nat) (x : Nt) (a b : Int) (w : World) (hS : St w B g x) (hi : twoB x.nodes a b = false) : Calls Tryz.prog 63 #[.pointer (some ⟨g, 0, none⟩), .int .i64 a, .int .i64 b] w fun e w' =>
    e = .returned (.int .i64 1) ∧ Below w.heap.size w w' := by
  have HI := Lib.hid hi
  clear hi
  go_enter Tryz.func63, Tryz.ntmps63
  go_wp2_with (go_at_call 97; refine calls_below (two_any B g x a b _ hS) ?_; intro w1 hb1; rw [HI.out])
  go_ret
  exact ⟨rfl, hb1⟩

set_option maxHeartbeats 2000000 in
set_option maxRecDepth 100000 in
theorem cut_ok (B g : Nat) (x : Nt) (a b : Int) (w : World) (hS : St w B g x) (hi : twoB x.nodes a b = true) (hl : x.cuts.length ≤ 10000000) (hB0 : B ≤ w.heap.size) : Calls Tryz.prog 63 #[.pointer (some ⟨g, 0, none⟩), .int .i64 a, .int .i64 b] w fun e w' =>
    ∃ p : Nat, bsAt lkCmp x.cuts p (mkLk a b) ∧ ((foundF lkCmp x.cuts p (mkLk a b) = true ∧ e = .returned (.int .i64 5) ∧ Below w.heap.size w w') ∨
      (foundF lkCmp x.cuts p (mkLk a b) = false ∧ e = .returned (.int .i64 0) ∧ St w' B g { x with cuts := insAt x.cuts p (mkLk a b) } ∧ Below B w w' ∧ Frm w w' g)) := by
  have HI := Lib.hid hi
  clear hi
  go_enter Tryz.func63, Tryz.ntmps63
  go_wp2_with (go_at_call 97; refine calls_below (two_any B g x a b _ hS) ?_; intro w1 hb1; rw [HI.out])
  have hS1 := hS.below hb1
  obtain ⟨AW, cW, AC, cC, AT, cT, hg, hB, oW, oC, oT⟩ := hS1.open
  have k4 := bl_cell hg 4
  have f4 := bl_frozen hg 4
  simp at k4
  have hlt := bl_lt hg
  have HR : Hid (Rd w1 AC x.cuts) := by
    obtain ⟨A, c, e, _, h⟩ := oC.slice
    cases e
    exact h
  refine wp_mix [(0, true), (1, true), (2, true), (3, true), (4, true), (5, true), (6, true), (7, false), (8, false), (9, true), (10, true), (11, true), (12, true)] 13
    (fun w' => Below w1.heap.size w1 w')
    (by kernel_rfl) (by kernel_rfl) (by kernel_rfl) (by kernel_rfl) (by kernel_rfl) (fun d _ _ _ _ h => by cases d <;> exact h) (Below.refl _ _).drew ?_
  simp only [pick, List.map_cons, List.map_nil, List.getD_cons_zero, List.getD_cons_succ, List.drop_succ_cons, List.drop_zero]
  iterate 7
    apply mix_take
    case hw => rfl
    case hy => intro W hW; obtain ⟨hwc, -⟩ := bcell hW; go_simp; try rfl
    simp only [Act.put, List.setIfInBounds_toArray, List.set_cons_zero, List.set_cons_succ]
  refine mix_do fun K' hK' => ?_
  go_wp2_with fail
  refine calls_below (link_any a b _) ?_
  intro w2 hb2
  have hb2' : Below w1.heap.size w1 w2 := below_trans (Below.refl _ w1).drew hb2
  go_wp2
  refine hK' _ _ hb2' ?_
  clear hK' K'
  refine mix_do fun K' hK' => ?_
  go_wp2_with fail
  refine (BsC_any AC cC x.cuts (mkLk a b) _ (by omega) (HR.out.below hb2')).mono ?_
  rintro e w3 ⟨p, rfl, hp, hb3⟩
  have hb3' : Below w1.heap.size w1 w3 := below_trans hb2' hb3
  have HP := Lib.hid hp
  clear hp
  cases hfd : foundF lkCmp x.cuts p (mkLk a b)
  all_goals
    have HF := Lib.hid hfd
    clear hfd
    go_wp2
    refine hK' _ _ hb3' ?_
    clear hK' K'
    iterate 4
      apply mix_take
      case hw => rfl
      case hy => intro W hW; go_simp; try rfl
      simp only [Act.put, List.setIfInBounds_toArray, List.set_cons_zero, List.set_cons_succ]
    refine mix_nil ?_
    go_wp2
  · have hg3 := bl_drew (bl_below hg hb3')
    have k43 := bl_cell hg3 4
    have f43 := bl_frozen hg3 4
    simp at k43
    have hlt3 := bl_lt hg3
    refine wp_mix [(0, true), (1, true), (2, true), (3, true), (4, true), (5, true), (6, true), (7, true), (8, true), (9, false), (10, false), (11, false)] 12
      (fun w' => w'.cell? ⟨g, 4, none⟩ = some (.slice AC x.cuts.length cC))
      (by kernel_rfl) (by kernel_rfl) (by kernel_rfl) (by kernel_rfl) (by kernel_rfl) (fun d _ _ _ _ h => by cases d <;> exact h) (by go_simp) ?_
    simp only [pick, List.map_cons, List.map_nil, List.getD_cons_zero, List.getD_cons_succ, List.drop_succ_cons, List.drop_zero]
    iterate 9
      apply mix_take
      case hw => rfl
      case hy => intro W hW; go_simp; try rfl
      simp only [Act.put, List.setIfInBounds_toArray, List.set_cons_zero, List.set_cons_succ]
    refine mix_do fun K' hK' => ?_
    go_wp2_with fail
    refine calls_below (link_any a b _) ?_
    intro w4 hb4
    have hb4' : Below w3.heap.size w3 w4 := below_trans (Below.refl _ w3).drew hb4
    have hg4 := bl_below (bl_below hg hb3') hb4'
    have k44 := bl_cell hg4 4
    simp at k44
    have hlt4 := bl_lt hg4
    go_wp2
    refine hK' _ _ (by go_simp) ?_
    clear hK' K'
    refine mix_do fun K' hK' => ?_
    go_wp2
    refine hK' _ _ (by go_simp) ?_
    clear hK' K'
    refine mix_do fun K' hK' => ?_
    go_wp2_with fail
    have oC4 := (oC.below hb3').below hb4'
    have oW4 := (oW.below hb3').below hb4'
    have oT4 := (oT.below hb3').below hb4'
    have hsz : w.heap.size ≤ w4.heap.size := Nat.le_trans hb1.size (Nat.le_trans hb3'.size hb4'.size)
    refine (InsertC_any (.slice AC x.cuts.length cC) p B w4.heap.size 96 x.cuts (mkLk a b) _ HP.out.1 (oC4.alloc _) (by simp; omega) (by omega) (fun h => by have := (oC4.lt _ h).2; omega) (bl_new w4 _)).mono ?_
    rintro e w5 ⟨v5, rfl, oC5, hg5, hat⟩
    obtain ⟨A5, c5, rfl, -, -⟩ := oC5.slice
    have hgC : (Value.slice AC x.cuts.length cC).ownBlock ≠ some g := oC4.ne hg4 (by decide)
    have hg5' := bl_grown (bl_alloc hg4 _) hg5 (fun h => hgC h.symm)
    have k45 := bl_cell hg5' 4
    have f45 := bl_frozen hg5' 4
    simp at k45
    go_wp2
    refine hK' _ _ (by go_simp) (mix_nil ?_)
    clear hK' K'
    go_wp2
    go_ret
    have hgr : w4.grownBy w5 (Value.slice AC x.cuts.length cC).ownBlock := grown_of_alloc hg5
    have hK1 : Kp w4 w5 g (Value.slice AC x.cuts.length cC).ownBlock := (Kp.refl w4 g _).grown hgr (.inr (.inl rfl))
    have hK2 := hK1.setCell (p := ⟨g, 4, none⟩) (.inl rfl) (.slice A5 (insAt x.cuts p (mkLk a b)).length c5)
    refine ⟨p, HP.out, .inr ⟨HF.out, rfl, ⟨.slice AW x.way.length cW, .slice A5 (insAt x.cuts p (mkLk a b)).length c5, .slice AT x.timers.length cT, by simpa using bl_set hg5' 4 _, hB, ?_, ?_, ?_⟩, ?_, ?_⟩⟩
    · exact hK2.own oW4 (oW4.ne hg4 (by decide)) (oW4.ne_own oC4 (by decide))
    · exact oC5.setCell (oC5.ne hg5' (by decide)) _
    · exact hK2.own oT4 (oT4.ne hg4 (by decide)) (oT4.ne_own oC4 (by decide))
    · exact (((hb1.mono hB0).trans (hb3'.mono (by have := hb1.size; omega))).trans (hb4'.mono (by have := hb1.size; have := hb3'.size; omega))).trans (hK2.toBelow hB (fun k hk => (oC4.lt k hk).1) (by omega))
    · have hgw : g < w.heap.size := hS.lt
      exact (Frm.of_below hgw (below_trans (below_trans hb1 hb3') hb4')).trans (Frm.kp (vC' := .slice A5 (insAt x.cuts p (mkLk a b)).length c5) hK2 hg4 (.inr (.inl rfl)) (by simpa using bl_set hg5' 4 (.slice A5 (insAt x.cuts p (mkLk a b)).length c5)) (inOld_self3 _ _ _ _) (inOld_4 (hat.imp_right fun h => ⟨_, h, by simp⟩)) (inOld_self5 _ _ _ _))
  · go_ret
    exact ⟨p, HP.out, .inl ⟨HF.out, rfl, below_trans hb1 hb3'⟩⟩
set_option maxHeartbeats 1000000 in
set_option maxRecDepth 100000 in
theorem heal_arg (B g : Nat) (x : Nt) (a b : Int) (w : World) (hS : St w B g x) (hi : twoB x.nodes a b = false) : Calls Tryz.prog 84 #[.pointer (some ⟨g, 0, none⟩), .int .i64 a, .int .i64 b] w fun e w' =>
    e = .returned (.int .i64 1) ∧ Below w.heap.size w w' := by
  have HI := Lib.hid hi
  clear hi
  go_enter Tryz.func84, Tryz.ntmps84
  go_wp2_with (go_at_call 97; refine calls_below (two_any B g x a b _ hS) ?_; intro w1 hb1; rw [HI.out])
  go_ret
  exact ⟨rfl, hb1⟩

set_option maxHeartbeats 2000000 in
set_option maxRecDepth 100000 in
theorem heal_ok (B g : Nat) (x : Nt) (a b : Int) (w : World) (hS : St w B g x) (hi : twoB x.nodes a b = true) (hl : x.cuts.length ≤ 10000000) (hB0 : B ≤ w.heap.size) : Calls Tryz.prog 84 #[.pointer (some ⟨g, 0, none⟩), .int .i64 a, .int .i64 b] w fun e w' =>
    ∃ p : Nat, bsAt lkCmp x.cuts p (mkLk a b) ∧ ((foundF lkCmp x.cuts p (mkLk a b) = false ∧ e = .returned (.int .i64 4) ∧ Below w.heap.size w w') ∨
      (foundF lkCmp x.cuts p (mkLk a b) = true ∧ e = .returned (.int .i64 0) ∧ St w' B g { x with cuts := x.cuts.eraseIdx p } ∧ Below B w w' ∧ Frm w w' g)) := by
  have HI := Lib.hid hi
  clear hi
  go_enter Tryz.func84, Tryz.ntmps84
  go_wp2_with (go_at_call 97; refine calls_below (two_any B g x a b _ hS) ?_; intro w1 hb1; rw [HI.out])
  have hS1 := hS.below hb1
  obtain ⟨AW, cW, AC, cC, AT, cT, hg, hB, oW, oC, oT⟩ := hS1.open
  have k4 := bl_cell hg 4
  have f4 := bl_frozen hg 4
  simp at k4
  have hlt := bl_lt hg
  have HR : Hid (Rd w1 AC x.cuts) := by
    obtain ⟨A, c, e, _, h⟩ := oC.slice
    cases e
    exact h
  refine wp_mix [(0, true), (1, true), (2, true), (3, true), (4, true), (5, true), (6, true), (7, false), (8, false), (9, true), (10, true), (11, true), (12, true)] 13
    (fun w' => Below w1.heap.size w1 w')
    (by kernel_rfl) (by kernel_rfl) (by kernel_rfl) (by kernel_rfl) (by kernel_rfl) (fun d _ _ _ _ h => by cases d <;> exact h) (Below.refl _ _).drew ?_
  simp only [pick, List.map_cons, List.map_nil, List.getD_cons_zero, List.getD_cons_succ, List.drop_succ_cons, List.drop_zero]
  iterate 7
    apply mix_take
    case hw => rfl
    case hy => intro W hW; obtain ⟨hwc, -⟩ := bcell hW; go_simp; try rfl
    simp only [Act.put, List.setIfInBounds_toArray, List.set_cons_zero, List.set_cons_succ]
  refine mix_do fun K' hK' => ?_
  go_wp2_with fail
  refine calls_below (link_any a b _) ?_
  intro w2 hb2
  have hb2' : Below w1.heap.size w1 w2 := below_trans (Below.refl _ w1).drew hb2
  go_wp2
  refine hK' _ _ hb2' ?_
  clear hK' K'
  refine mix_do fun K' hK' => ?_
  go_wp2_with fail
  refine (BsC_any AC cC x.cuts (mkLk a b) _ (by omega) (HR.out.below hb2')).mono ?_
  rintro e w3 ⟨p, rfl, hp, hb3⟩
  have hb3' : Below w1.heap.size w1 w3 := below_trans hb2' hb3
  have HP := Lib.hid hp
  clear hp
  cases hfd : foundF lkCmp x.cuts p (mkLk a b)
  all_goals
    have HF := Lib.hid hfd
    clear hfd
    go_wp2
    refine hK' _ _ hb3' ?_
    clear hK' K'
    iterate 4
      apply mix_take
      case hw => rfl
      case hy => intro W hW; go_simp; try rfl
      simp only [Act.put, List.setIfInBounds_toArray, List.set_cons_zero, List.set_cons_succ]
    refine mix_nil ?_
  · go_wp2
    go_ret
    exact ⟨p, HP.out, .inl ⟨HF.out, rfl, below_trans hb1 hb3'⟩⟩
  · have hg3 := bl_below hg hb3'
    have oC3 := oC.below hb3'
    have oW3 := oW.below hb3'
    have oT3 := oT.below hb3'
    have hgC : (Value.slice AC x.cuts.length cC).ownBlock ≠ some g := oC3.ne hg3 (by decide)
    obtain ⟨z, hz⟩ : ∃ z, x.cuts[p]? = some z := by
      have := HF.out
      unfold foundF at this
      cases h : x.cuts[p]? with
      | none => rw [h] at this; cases this
      | some z => exact ⟨z, rfl⟩
    have hpl := (List.getElem?_eq_some_iff.1 hz).1
    obtain ⟨gc, rfl⟩ : ∃ gc, AC = some ⟨gc, 0, none⟩ := by
      rcases oC3.2 with ⟨h, h0⟩ | ⟨g', cap, cur, h, _⟩
      · omega
      · injection h with h1 h2 h3
        exact ⟨g', h1⟩
    have hgn : gc ≠ g := by simpa [Value.ownBlock] using hgC
    have HZ := Lib.hid hz
    clear hz
    have k43 := bl_cell hg3 4
    have f43 := bl_frozen hg3 4
    simp at k43
    have hlt3 := bl_lt hg3
    have hsz : w.heap.size ≤ w3.heap.size := Nat.le_trans hb1.size hb3'.size
    go_wp2_with (go_at_call 112; refine (withoutC_any gc p cC B x.cuts z _ HZ.out oC3).mono ?_; rintro e w5 ⟨rfl, oC5, hg5⟩; have hg5' := bl_grown hg3 hg5 (by simpa using hgn.symm); have k45 := bl_cell hg5' 4; have f45 := bl_frozen hg5' 4; simp at k45)
    go_ret
    have hgr : w3.grownBy w5 (some gc) := hg5
    have hK1 : Kp w3 w5 g (some gc) := (Kp.refl w3 g _).grown hgr (.inr (.inl rfl))
    have hK2 := hK1.setCell (p := ⟨g, 4, none⟩) (.inl rfl) (.slice (some ⟨gc, 0, none⟩) (x.cuts.length - 1) cC)
    refine ⟨p, HP.out, .inr ⟨HF.out, rfl, ⟨.slice AW x.way.length cW, .slice (some ⟨gc, 0, none⟩) (x.cuts.length - 1) cC, .slice AT x.timers.length cT, by simpa using bl_set hg5' 4 _, hB, ?_, ?_, ?_⟩, ?_, ?_⟩⟩
    · exact hK2.own oW3 (oW3.ne hg3 (by decide)) (oW3.ne_own oC3 (by decide))
    · exact oC5.setCell (oC5.ne hg5' (by decide)) _
    · exact hK2.own oT3 (oT3.ne hg3 (by decide)) (oT3.ne_own oC3 (by decide))
    · exact ((hb1.mono hB0).trans (hb3'.mono (by have := hb1.size; omega))).trans (hK2.toBelow hB (fun k hk => by cases hk; exact (oC3.lt gc rfl).1) (by omega))
    · exact (Frm.of_below hS.lt (below_trans hb1 hb3')).trans (Frm.kp (row := some gc) (vC' := .slice (some ⟨gc, 0, none⟩) (x.cuts.length - 1) cC) hK2 hg3 (.inr (.inl rfl)) (by simpa using bl_set hg5' 4 (.slice (some ⟨gc, 0, none⟩) (x.cuts.length - 1) cC)) (inOld_self3 _ _ _ _) (inOld_4 (.inl rfl)) (inOld_self5 _ _ _ _))
-- END TWO
end Go.Proofs.YthlbmcfliejdiaaGreat
end

section
set_option linter.unusedVariables false
set_option linter.unusedSimpArgs false
namespace Go.Proofs.YthlbmcfliejdiaaGreat
open Go.RowKit

def stopB (nodes nd tg : Int) : Bool := isNodeB nodes nd && decide (0 ≤ tg) && decide (tg ≤ 2147483647)
theorem ixF_in {α : Type} (p : α → Bool) : ∀ (xs : List α) (k : Int), 0 ≤ k → ixF p xs k = -1 ∨ ∃ i : Nat, i < xs.length ∧ ixF p xs k = k + i
  | [], k, _ => .inl rfl
  | x :: r, k, hk => by
    unfold ixF
    split
    · exact .inr ⟨0, by simp, by simp⟩
    · rcases ixF_in p r (k + 1) (by omega) with h | ⟨i, hi, h⟩
      · exact .inl h
      · exact .inr ⟨i + 1, by simpa using hi, by rw [h]; omega⟩

set_option maxHeartbeats 1000000 in
set_option maxRecDepth 100000 in
theorem stop_arg (B g : Nat) (x : Nt) (nd tg : Int) (w : World) (hS : St w B g x) (hb : stopB x.nodes nd tg = false) :
    Calls Tryz.prog 87 #[.pointer (some ⟨g, 0, none⟩), .int .i64 nd, .int .i64 tg] w fun e w' => e = .returned (.int .i64 1) ∧ Below w.heap.size w w' := by
  have HB := Lib.hid hb
  clear hb
  obtain ⟨AW, cW, AC, cC, AT, cT, hg, hB, oW, oC, oT⟩ := hS.open
  have k0 := bl_cell hg 0
  have k1 := bl_cell hg 1
  have k2 := bl_cell hg 2
  have k3 := bl_cell hg 3
  have k4 := bl_cell hg 4
  have k5 := bl_cell hg 5
  simp at k0 k1 k2 k3 k4 k5
  have hlt := bl_lt hg
  clear hg oW oC oT hS
  cases hn : isNodeB x.nodes nd
  · go_enter Tryz.func87, Tryz.ntmps87
    go_wp2_with (go_at_call 71; refine calls_below (isNode_any _ _ _ _ _ _ _ _ _ _ _ _ _ _) ?_; intro w1 hb1; rw [hn])
    go_ret
    exact ⟨rfl, hb1⟩
  · have HN := Lib.hid hn
    clear hn
    have hz := HB.out
    simp only [stopB, HN.out, Bool.true_and, Bool.and_eq_false_iff, decide_eq_false_iff_not] at hz
    by_cases h0 : 0 ≤ tg
    · have h1 : 2147483647 < tg := by omega
      clear hz
      go_enter Tryz.func87, Tryz.ntmps87
      go_wp2_with (go_at_call 71; refine calls_below (isNode_any _ _ _ _ _ _ _ _ _ _ _ _ _ _) ?_; intro w1 hb1; rw [HN.out])
      go_ret
      exact ⟨rfl, hb1⟩
    · have h1 : tg < 0 := by omega
      clear hz
      go_enter Tryz.func87, Tryz.ntmps87
      go_wp2_with (go_at_call 71; refine calls_below (isNode_any _ _ _ _ _ _ _ _ _ _ _ _ _ _) ?_; intro w1 hb1; rw [HN.out])
      go_ret
      exact ⟨rfl, hb1⟩

set_option maxHeartbeats 1000000 in
set_option maxRecDepth 100000 in
theorem stop_none (B g : Nat) (x : Nt) (nd tg : Int) (w : World) (hS : St w B g x) (hb : stopB x.nodes nd tg = true) (hl : x.timers.length ≤ 10000000) (hi : ixF (isTm nd tg) x.timers 0 = -1) :
    Calls Tryz.prog 87 #[.pointer (some ⟨g, 0, none⟩), .int .i64 nd, .int .i64 tg] w fun e w' => e = .returned (.int .i64 4) ∧ Below w.heap.size w w' := by
  have HB := Lib.hid hb
  have HI := Lib.hid hi
  simp only [stopB, Bool.and_eq_true, decide_eq_true_eq] at hb
  obtain ⟨⟨hn, h0⟩, h1⟩ := hb
  have HN := Lib.hid hn
  obtain ⟨AW, cW, AC, cC, AT, cT, hg, hB, oW, oC, oT⟩ := hS.open
  have k0 := bl_cell hg 0
  have k1 := bl_cell hg 1
  have k2 := bl_cell hg 2
  have k3 := bl_cell hg 3
  have k4 := bl_cell hg 4
  have k5 := bl_cell hg 5
  simp at k0 k1 k2 k3 k4 k5
  have hlt := bl_lt hg
  clear hg oW oC oT hn hi
  go_enter Tryz.func87, Tryz.ntmps87
  go_wp2_with (first
    | (go_at_call 71; refine calls_below (isNode_any _ _ _ _ _ _ _ _ _ _ _ _ _ _) ?_; intro w1 hb1; rw [HN.out])
    | (go_at_call 102; refine calls_below (timer_any B g x nd tg _ (hS.below hb1) (by omega)) ?_; intro w2 hb2; rw [HI.out]))
  go_ret
  exact ⟨rfl, below_trans hb1 hb2⟩

set_option maxHeartbeats 2000000 in
set_option maxRecDepth 100000 in
theorem stop_ok (B g i : Nat) (x : Nt) (nd tg : Int) (w : World) (hS : St w B g x) (hb : stopB x.nodes nd tg = true) (hl : x.timers.length ≤ 10000000) (hi : ixF (isTm nd tg) x.timers 0 = i) (hil : i < x.timers.length) (hB0 : B ≤ w.heap.size) :
    Calls Tryz.prog 87 #[.pointer (some ⟨g, 0, none⟩), .int .i64 nd, .int .i64 tg] w fun e w' => e = .returned (.int .i64 0) ∧ St w' B g { x with timers := x.timers.eraseIdx i } ∧ Below B w w' ∧ Frm w w' g := by
  have HB := Lib.hid hb
  have HI := Lib.hid hi
  simp only [stopB, Bool.and_eq_true, decide_eq_true_eq] at hb
  obtain ⟨⟨hn, h0⟩, h1⟩ := hb
  have HN := Lib.hid hn
  obtain ⟨AW, cW, AC, cC, AT, cT, hg, hB, oW, oC, oT⟩ := hS.open
  have k0 := bl_cell hg 0
  have k1 := bl_cell hg 1
  have k2 := bl_cell hg 2
  have k3 := bl_cell hg 3
  have k4 := bl_cell hg 4
  have k5 := bl_cell hg 5
  simp at k0 k1 k2 k3 k4 k5
  have hlt := bl_lt hg
  obtain ⟨z, hz⟩ : ∃ z, x.timers[i]? = some z := ⟨_, List.getElem?_eq_getElem hil⟩
  have HZ := Lib.hid hz
  have hgC : (Value.slice AT x.timers.length cT).ownBlock ≠ some g := oT.ne hg (by decide)
  obtain ⟨gc, rfl⟩ : ∃ gc, AT = some ⟨gc, 0, none⟩ := by
    rcases oT.2 with ⟨h, h0⟩ | ⟨g', cap, cur, h, _⟩
    · omega
    · injection h with h1 h2 h3
      exact ⟨g', h1⟩
  have hgn : gc ≠ g := by simpa [Value.ownBlock] using hgC
  clear hn hi hz
  have q0 : ¬ ((i : Int) < 0) := by omega
  go_enter Tryz.func87, Tryz.ntmps87
  go_wp2_with (first
    | (go_at_call 71; refine calls_below (isNode_any _ _ _ _ _ _ _ _ _ _ _ _ _ _) ?_; intro w1 hb1; rw [HN.out])
    | (go_at_call 102; refine calls_below (timer_any B g x nd tg _ (hS.below hb1) (by omega)) ?_; intro w2 hb2; rw [HI.out]; have hg3 := bl_below hg (below_trans hb1 hb2); have k53 := bl_cell hg3 5; have f53 := bl_frozen hg3 5; simp at k53; have hlt3 := bl_lt hg3)
    | (go_at_call 96; refine (withoutT_any gc i cT B x.timers z _ HZ.out (oT.below (below_trans hb1 hb2))).mono ?_; rintro e w5 ⟨rfl, oC5, hg5⟩; have hg5' := bl_grown hg3 hg5 (by simpa using hgn.symm); have k55 := bl_cell hg5' 5; have f55 := bl_frozen hg5' 5; simp at k55))
  go_ret
  have hb2' := below_trans hb1 hb2
  have oW3 := oW.below hb2'
  have oC3 := oC.below hb2'
  have oT3 := oT.below hb2'
  have hgr : w2.grownBy w5 (some gc) := hg5
  have hK1 : Kp w2 w5 g (some gc) := (Kp.refl w2 g _).grown hgr (.inr (.inl rfl))
  have hK2 := hK1.setCell (p := ⟨g, 5, none⟩) (.inl rfl) (.slice (some ⟨gc, 0, none⟩) (x.timers.length - 1) cT)
  refine ⟨rfl, ⟨.slice AW x.way.length cW, .slice AC x.cuts.length cC, .slice (some ⟨gc, 0, none⟩) (x.timers.length - 1) cT, by simpa using bl_set hg5' 5 _, hB, ?_, ?_, ?_⟩, ?_, ?_⟩
  · exact hK2.own oW3 (oW3.ne hg3 (by decide)) (oW3.ne_own oT3 (by decide))
  · exact hK2.own oC3 (oC3.ne hg3 (by decide)) (oC3.ne_own oT3 (by decide))
  · exact oC5.setCell (oC5.ne hg5' (by decide)) _
  · exact (hb2'.mono hB0).trans (hK2.toBelow hB (fun k hk => by cases hk; exact (oT3.lt gc rfl).1) (by have := hb2'.size; omega))
  · exact (Frm.of_below hS.lt hb2').trans (Frm.kp (row := some gc) (vT' := .slice (some ⟨gc, 0, none⟩) (x.timers.length - 1) cT) hK2 hg3 (.inr (.inr rfl)) (by simpa using bl_set hg5' 5 (.slice (some ⟨gc, 0, none⟩) (x.timers.length - 1) cT)) (inOld_self3 _ _ _ _) (inOld_self4 _ _ _ _) (inOld_5 (.inl rfl)))
end Go.Proofs.YthlbmcfliejdiaaGreat
end
