/- Slices of structs that a call has made itself: what they hold, what an append leaves; the contracts of slices.Clone at letters, links and timers. A region that draws its order: operations that yield one value in every world of a class are taken first, the effects come one by one, a tail comes in one forced order. Reg's walk inside the wide fence: a region that draws its order: operations that yield one value in every world of a class are taken first, the effects come one by one, a tail comes in one forced order. The contracts of slices.Delete(s, i, i+1) and of the program's without, at letters, links and timers, on a row of the call's own. The contract of the program's changing. -/
import Derived.Test.YthlbmcfliejdiaaGreatGa
import Derived.Maps.AppendAt
import Derived.OwnWalk
import Derived.OrdersHeld
import Derived.OrdersIn
import Derived.TacticsIn
import Derived.Laws.CopyRow
section
set_option linter.unusedVariables false
set_option linter.unusedSimpArgs false
namespace Go.Proofs.YthlbmcfliejdiaaGreat
open Go.RowKit

section
variable {α : Type} [Enc α]
theorem flat_length (xs : List α) : (flat xs).length = xs.length * Enc.sz α := by
  induction xs with
  | nil => simp [flat]
  | cons x xs ih =>
    have : flat (x :: xs) = Enc.enc x ++ flat xs := rfl
    rw [this, List.length_append, ih, Enc.len, List.length_cons, Nat.add_mul]
    omega
theorem flat_get (xs : List α) (i k : Nat) (hk : k < Enc.sz α) : (flat xs)[i * Enc.sz α + k]? = (xs[i]?).bind fun x => (Enc.enc x)[k]? := by
  induction xs generalizing i with
  | nil => simp [flat]
  | cons x xs ih =>
    have h : flat (x :: xs) = Enc.enc x ++ flat xs := rfl
    have hl := Enc.len x
    cases i with
    | zero => rw [h, List.getElem?_append_left (by omega)]; simp
    | succ i =>
      rw [h, List.getElem?_append_right (by rw [hl, Nat.add_mul]; omega), hl, show (i + 1) * Enc.sz α + k - Enc.sz α = i * Enc.sz α + k by rw [Nat.add_mul]; omega, ih]
      simp
theorem flat_one (xs : List α) : ∀ u ∈ flat xs, u.oneCell' = true := by
  intro u hu
  obtain ⟨x, _, hx⟩ := List.mem_flatMap.1 hu
  exact Enc.one x u hx
theorem flat_append (xs ys : List α) : flat (xs ++ ys) = flat xs ++ flat ys := by simp [flat]
theorem flat_sing (x : α) : flat [x] = Enc.enc x := by simp [flat]

/-- Rd by the flat list of cells. -/
theorem Rd.of_cells {w : World} {b off : Nat} {xs : List α} (h : ∀ j u, (flat xs)[j]? = some u → w.cell? ⟨b, off + j, none⟩ = some u) : Rd w (some ⟨b, off, none⟩) xs := by
  intro i hi
  refine ⟨b, off, rfl, fun k v hk => ?_⟩
  have hkl : k < Enc.sz α := by
    have := (List.getElem?_eq_some_iff.1 hk).1
    rwa [Enc.len] at this
  rw [Nat.add_assoc]
  refine h _ _ ?_
  rw [flat_get xs i k hkl, List.getElem?_eq_getElem hi]
  exact hk
theorem Rd.cells {w : World} {ad : Addr} {xs : List α} (h : Rd w (some ad) xs) : ∀ j u, (flat xs)[j]? = some u → w.cell? (ad.add j) = some u := by
  intro j u hj
  have hjl := (List.getElem?_eq_some_iff.1 hj).1
  rw [flat_length] at hjl
  have hpos : 0 < Enc.sz α := by
    rcases Nat.eq_zero_or_pos (Enc.sz α) with h0 | h0
    · rw [h0] at hjl; simp at hjl
    · exact h0
  have hi : j / Enc.sz α < xs.length := Nat.div_lt_of_lt_mul (by rw [Nat.mul_comm]; exact hjl)
  have hk : j % Enc.sz α < Enc.sz α := Nat.mod_lt _ hpos
  have hdm : j / Enc.sz α * Enc.sz α + j % Enc.sz α = j := by rw [Nat.mul_comm]; exact Nat.div_add_mod j _
  obtain ⟨b, off, e, hc⟩ := h (j / Enc.sz α) hi
  have hg := flat_get xs (j / Enc.sz α) (j % Enc.sz α) hk
  rw [hdm, hj, List.getElem?_eq_getElem hi] at hg
  have := hc (j % Enc.sz α) u hg.symm
  cases e
  rw [Nat.add_assoc, hdm] at this
  unfold Addr.add
  split
  · rename_i h0; subst h0; simpa using this
  · exact this
theorem Rd.cells' {w : World} {b off : Nat} {xs : List α} (h : Rd w (some ⟨b, off, none⟩) xs) : ∀ j u, (flat xs)[j]? = some u → w.cell? ⟨b, off + j, none⟩ = some u := by
  intro j u hj
  have := h.cells j u hj
  unfold Addr.add at this
  split at this
  · rename_i h0; subst h0; exact this
  · exact this

/-- v is a row of the call's own (a block from B on), of element type e, that holds xs. -/
def Own (w : World) (B : Nat) (e : TypeId) (v : Value) (xs : List α) : Prop := w.ownsRow B e (Enc.sz α) v xs.length (flat xs)

variable {w w1 : World} {B B' : Nat} {e e' : TypeId} {v v' : Value} {xs : List α}
theorem Own.nil (w : World) (B : Nat) (e : TypeId) : Own w B e (.slice none 0 0) ([] : List α) := ⟨by simp [flat], .inl ⟨rfl, rfl⟩⟩
theorem Own.slice (h : Own w B e v xs) : ∃ A c, v = .slice A xs.length c ∧ xs.length ≤ c ∧ Rd w A xs := by
  rcases h.2 with ⟨rfl, h0⟩ | ⟨g, cap, cur, rfl, hb, hg, hn, hm, hs, ht⟩
  · have : xs = [] := List.eq_nil_of_length_eq_zero h0
    subst this
    exact ⟨none, 0, rfl, Nat.le_refl _, Rd.nil _ _⟩
  · refine ⟨_, cap, rfl, hn, Rd.of_cells fun j u hj => ?_⟩
    have := h.cells (g := g) rfl j u hj
    unfold Addr.add at this
    split at this
    · rename_i h0; subst h0; exact this
    · exact this
theorem Own.lt (h : Own w B e v xs) (k : Nat) (hk : v.ownBlock = some k) : B ≤ k ∧ k < w.heap.size := World.ownsRow.lt h k hk
theorem Own.kept {row : Option Nat} (h : Own w B e v xs) (hg : w.grownBy w1 row) (hne : v.ownBlock = none ∨ v.ownBlock ≠ row) : Own w1 B e v xs := World.ownsRow.kept h hg hne
theorem Own.below (h : Own w B e v xs) (hb : Below w.heap.size w w1) : Own w1 B e v xs :=
  h.kept (row := none) ⟨hb.os, hb.tape, hb.output, hb.size, fun i hi _ => hb.block i hi⟩ (by cases v.ownBlock <;> simp)
theorem Own.alloc (h : Own w B e v xs) (o : Obj) : Own (w.alloc o) B e v xs := World.ownsRow.alloc h o
theorem Own.drew (h : Own w B e v xs) : Own w.drew B e v xs := h
theorem Own.weaken (h : Own w B e v xs) (hb : B' ≤ B) : Own w B' e v xs := by
  refine ⟨h.1, ?_⟩
  rcases h.2 with hn | ⟨g, cap, cur, rfl, hb', rest⟩
  · exact .inl hn
  · exact .inr ⟨g, cap, cur, rfl, Nat.le_trans hb hb', rest⟩
/-- The row's block bears its element type: it is no block of another type. -/
theorem Own.ne {g : Nat} {t : TypeId} {cs : Array Value} {fr : Nat × Nat} (h : Own w B e v xs) (hg : w.heap[g]? = some (.cells cs t fr)) (hne : e ≠ t) : v.ownBlock ≠ some g := by
  intro hk
  rcases h.2 with ⟨rfl, _⟩ | ⟨g', cap, cur, rfl, _, hh, _⟩
  · simp [Value.ownBlock] at hk
  · simp only [Value.ownBlock, Option.some.injEq] at hk
    subst hk
    rw [hh] at hg
    injection hg with hg
    injection hg with _ ht
    exact hne ht
theorem Own.ne_own {β : Type} [Enc β] {ys : List β} (h : Own w B e v xs) (h' : Own w B' e' v' ys) (hne : e ≠ e') : v.ownBlock = none ∨ v.ownBlock ≠ v'.ownBlock := by
  rcases h'.2 with ⟨rfl, _⟩ | ⟨g', cap, cur, rfl, _, hh, _⟩
  · cases hv : v.ownBlock
    · exact .inl rfl
    · exact .inr (by simp [Value.ownBlock])
  · exact .inr (h.ne hh hne)
theorem Own.setCell (h : Own w B e v xs) {p : Addr} (hne : v.ownBlock ≠ some p.block) (u : Value) : Own (w.setCell p u) B e v xs :=
  h.kept (row := some p.block) ⟨rfl, rfl, rfl, by simp [World.setCell], fun k hk hne' => Below.heap_setCell _ _ _ _ (by rintro rfl; exact hne' rfl)⟩ (.inr hne)
theorem Own.far (h : Own w B e v xs) {p : Addr} (hp : p.block < B) (u : Value) : Own (w.setCell p u) B e v xs :=
  h.setCell (fun hk => by have := (h.lt _ hk).1; omega) u
end

/-- append(v, ys...) at whatever element type: v a row of the call's own, ys a slice that is read. -/
theorem run_app {α : Type} [Enc α] {P : Program} (W : World) (base : Nat) (t ty e : TypeId) (z : Value) (bytes : Nat)
    (ht : P.underlying t = some (.slice e)) (hinfo : (P.info? e).map (fun i => (i.zero, i.size, i.bytes)) = some (some z, Enc.sz α, bytes)) (hz : z.cells.size = Enc.sz α) (hs0 : 0 < Enc.sz α) (hb0 : 0 < bytes)
    (v : Value) (xs ys : List α) (A : Option Addr) (c : Nat) (HO : Own W base e v xs) (HR : Rd W A ys) (hbase : base ≤ W.heap.size) (hl : (xs.length + ys.length) * bytes ≤ 140737488355328) :
    ∃ v1 w1, (Builtin.append_ #[t, t] ty #[v, .slice A ys.length c]).run P W = .ok v1 w1 ∧ Own w1 base e v1 (xs ++ ys) ∧ W.grownBy w1 v.ownBlock ∧ (v1.ownBlock = v.ownBlock ∨ v1.ownBlock = some W.heap.size) := by
  obtain ⟨i0, hi, hzz⟩ := Option.map_eq_some_iff.1 hinfo
  simp only [Prod.mk.injEq] at hzz
  obtain ⟨hz0, hz1, hz2⟩ := hzz
  have hlen : xs.length + ys.length ≤ 140737488355328 := Nat.le_trans (Nat.le_mul_of_pos_right _ hb0) hl
  rcases A with _ | ad
  · have h0 : ys = [] := by
      rcases ys with _ | ⟨y, ys⟩
      · rfl
      · obtain ⟨b, off, e, _⟩ := HR 0 (by simp)
        cases e
    subst h0
    refine ⟨v, W, ?_, by simpa using HO, World.grownBy.refl W _, .inl rfl⟩
    rcases HO.2 with ⟨rfl, hn⟩ | ⟨g, cap, cur, rfl, _, _, hnc, _⟩
    · simp [Builtin.append_, run_underlying ht, sizeOf, typeInfo, hi, Builtin.lenOf, Builtin.firstCells]
    · simp [Builtin.append_, run_underlying ht, sizeOf, typeInfo, hi, Builtin.lenOf, Builtin.firstCells, hnc, storeCells]
  · obtain ⟨v1, w1, hr, h2, h3, _, h5⟩ := run_append_own_at (P := P) W base t ty e i0 z (Enc.sz α) bytes ht hi hz0 hz1 hz2 hz hs0 v xs.length (flat xs) HO ad ys.length c (flat ys) (flat_length ys) HR.cells (flat_one ys)
      (by simp only [maxLen]; omega) hl hbase
    refine ⟨v1, w1, hr, ?_, h3, h5⟩
    show w1.ownsRow base e _ v1 (xs ++ ys).length (flat (xs ++ ys))
    rw [List.length_append, flat_append]
    exact h2

theorem wpList_app {α : Type} [Enc α] {P : Program} {ops : Array Oper} {rest : List Oper} {o : Oper} {a : Act} {Q : Exit → Act → World → Prop} (W : World) (base : Nat) (hgd : o.guard = none) (s x : Operand) (t e : TypeId) (z : Value) (bytes : Nat)
    (ho : o.op = .call { callee := .builtin .append, args := #[s, x], argTypes := #[t, t] })
    (ht : P.underlying t = some (.slice e)) (hinfo : (P.info? e).map (fun i => (i.zero, i.size, i.bytes)) = some (some z, Enc.sz α, bytes)) (hz : z.cells.size = Enc.sz α) (hs0 : 0 < Enc.sz α) (hb0 : 0 < bytes)
    (v : Value) (xs ys : List α) (A : Option Addr) (c : Nat) (hs : a.eval s = v) (hx : a.eval x = .slice A ys.length c) (HO : Own W base e v xs) (HR : Rd W A ys) (hbase : base ≤ W.heap.size) (hl : (xs.length + ys.length) * bytes ≤ 140737488355328)
    (h : ∀ v1 w1, Own w1 base e v1 (xs ++ ys) → W.grownBy w1 v.ownBlock → (v1.ownBlock = v.ownBlock ∨ v1.ownBlock = some W.heap.size) → wpList P ops Q rest (a.put o.dst v1) w1) :
    wpList P ops Q (o :: rest) a W := by
  obtain ⟨v1, w1, hr, h1, h2, h3⟩ := run_app (P := P) W base t o.type e z bytes ht hinfo hz hs0 hb0 v xs ys A c HO HR hbase hl
  refine wpList_plain hgd fun K hK => ?_
  unfold Oper.wp execOp
  simp only [ho, resolve, invoke, builtin, Sem.run_bind, Sem.run_pure, Result.andThen_ok, List.map_toArray, List.map_cons, List.map_nil, hs, hx, hr]
  exact hK _ _ (h v1 w1 h1 h2 h3)

/-- Old cells of other blocks read as before, none has been frozen: for the walk, as two rules. -/
theorem gcell {W w1 : World} {g : Nat} (hg : W.grownBy w1 (some g)) : (∀ b o, b < W.heap.size → ¬ b = g → w1.cell? ⟨b, o, none⟩ = W.cell? ⟨b, o, none⟩) ∧ (∀ b o, b < W.heap.size → ¬ b = g → w1.frozen? ⟨b, o, none⟩ = W.frozen? ⟨b, o, none⟩) :=
  ⟨fun b o h hne => World.cell?_of_block (hg.block b h (by simpa using hne)), fun b o h hne => World.frozen?_of_block (hg.block b h (by simpa using hne))⟩

theorem bl_drew {w : World} {g : Nat} {o : Obj} (h : w.heap[g]? = some o) : w.drew.heap[g]? = some o := h
theorem grown_setCell {w w1 : World} {row : Option Nat} (h : w.grownBy w1 row) {p : Addr} (hp : w.heap.size ≤ p.block) (u : Value) : w.grownBy (w1.setCell p u) row :=
  ⟨h.os, h.tape, h.output, by simpa [World.setCell] using h.size, fun k hk hne => by rw [Below.heap_setCell _ _ _ _ (by omega)]; exact h.block k hk hne⟩
theorem grown_of_alloc {w w1 : World} {row : Option Nat} {o : Obj} (h : (w.alloc o).grownBy w1 row) : w.grownBy w1 row :=
  ⟨h.os, h.tape, h.output, by have := h.size; simp at this; omega, fun k hk hne => (h.block k (by simp; omega) hne).trans (Below.heap_alloc w o k hk)⟩
theorem grown_of_drew {w w1 : World} {row : Option Nat} (h : w.drew.grownBy w1 row) : w.grownBy w1 row := ⟨h.os, h.tape, h.output, h.size, h.block⟩
theorem grown_alloc {w w1 : World} {row : Option Nat} (h : w.grownBy w1 row) (o : Obj) : w.grownBy (w1.alloc o) row :=
  ⟨h.os, h.tape, h.output, by have := h.size; simp; omega, fun k hk hne => (Below.heap_alloc w1 o k (by have := h.size; omega)).trans (h.block k hk hne)⟩
theorem grown_drew {w w1 : World} {row : Option Nat} (h : w.grownBy w1 row) : w.grownBy w1.drew row := ⟨h.os, h.tape, h.output, h.size, h.block⟩
section
variable {P : Program} {ops : Array Oper} {rest : List Oper} {o : Oper} {a : Act} {Q : Exit → Act → World → Prop} {W W' : World}
/-- A builtin whose run is known by an equation. -/
theorem wpList_run_append (hgd : o.guard = none) (s x : Operand) (t t' : TypeId) (ho : o.op = .call { callee := .builtin .append, args := #[s, x], argTypes := #[t, t'] }) (v u : Value) (hs : a.eval s = v) (hx : a.eval x = u) {v' : Value}
    (hr : (Builtin.append_ #[t, t'] o.type #[v, u]).run P W = .ok v' W') (h : wpList P ops Q rest (a.put o.dst v') W') : wpList P ops Q (o :: rest) a W :=
  wpList_plain hgd fun K hK => by
    unfold Oper.wp execOp
    simp only [ho, resolve, invoke, builtin, Sem.run_bind, Sem.run_pure, Result.andThen_ok, List.map_toArray, List.map_cons, List.map_nil, hs, hx, hr]
    exact hK _ _ h
theorem wpList_run_copy (hgd : o.guard = none) (s x : Operand) (t t' : TypeId) (ho : o.op = .call { callee := .builtin .copy, args := #[s, x], argTypes := #[t, t'] }) (v u : Value) (hs : a.eval s = v) (hx : a.eval x = u) {v' : Value}
    (hr : (Builtin.copy_ #[t, t'] o.type #[v, u]).run P W = .ok v' W') (h : wpList P ops Q rest (a.put o.dst v') W') : wpList P ops Q (o :: rest) a W :=
  wpList_plain hgd fun K hK => by
    unfold Oper.wp execOp
    simp only [ho, resolve, invoke, builtin, Sem.run_bind, Sem.run_pure, Result.andThen_ok, List.map_toArray, List.map_cons, List.map_nil, hs, hx, hr]
    exact hK _ _ h
theorem wpList_run_clear (hgd : o.guard = none) (s : Operand) (t : TypeId) (ho : o.op = .call { callee := .builtin .clear, args := #[s], argTypes := #[t] }) (v : Value) (hs : a.eval s = v) {v' : Value}
    (hr : (Builtin.clear_ #[t] o.type #[v]).run P W = .ok v' W') (h : wpList P ops Q rest (a.put o.dst v') W') : wpList P ops Q (o :: rest) a W :=
  wpList_plain hgd fun K hK => by
    unfold Oper.wp execOp
    simp only [ho, resolve, invoke, builtin, Sem.run_bind, Sem.run_pure, Result.andThen_ok, List.map_toArray, List.map_cons, List.map_nil, hs, hr]
    exact hK _ _ h
end

theorem infoW : (Tryz.prog.info? 33).map (fun i => (i.zero, i.size, i.bytes)) = some (some (.agg #[.int .i64 0, .int .i64 0, .int .i64 0, .int .i64 0, .string ⟨#[]⟩]), 5, 48) := by kernel_rfl
theorem infoC : (Tryz.prog.info? 96).map (fun i => (i.zero, i.size, i.bytes)) = some (some (.agg #[.int .i64 0, .int .i64 0]), 2, 16) := by kernel_rfl
theorem infoT : (Tryz.prog.info? 86).map (fun i => (i.zero, i.size, i.bytes)) = some (some (.agg #[.int .i64 0, .int .i64 0, .int .i64 0]), 3, 24) := by kernel_rfl
theorem infoI : (Tryz.prog.info? 3).map (fun i => (i.zero, i.size, i.bytes)) = some (some (.int .i64 0), 1, 8) := by kernel_rfl

set_option maxHeartbeats 400000 in
set_option maxRecDepth 100000 in
theorem CloneC_any (A : Option Addr) (c : Nat) (xs : List Lk) (w : World) (hl : xs.length * 16 ≤ 140737488355328) (hR : Rd w A xs) :
    Calls Tryz.prog 69 #[.slice A xs.length c] w fun e w' => ∃ v, e = .returned v ∧ Own w' w.heap.size 96 v xs ∧ Below w.heap.size w w' := by
  have hnil := fun W n => Lib.run_eql_slice_nil (P := Tryz.prog) W 23 96 A n c 0 0 Tryz.underlying23
  cases A with
  | none =>
    have h0 : xs = [] := by
      rcases xs with _ | ⟨y, ys⟩
      · rfl
      · obtain ⟨b, off, e, _⟩ := hR 0 (by simp)
        cases e
    subst h0
    go_enter Tryz.func69, Tryz.ntmps69
    go_wp2
    go_ret
    exact ⟨_, rfl, Own.nil _ _ _, Below.refl _ _⟩
  | some ad =>
    go_enter Tryz.func69, Tryz.ntmps69
    have HO : Own (w.alloc (.cells #[] 96)) w.heap.size 96 (.slice (some ⟨w.heap.size, 0, none⟩) 0 0) ([] : List Lk) :=
      World.ownsRow_made w #[] 0 (Nat.le_refl _) (by simp [maxLen]) (by simp)
    have HR : Rd (w.alloc (.cells #[] 96)) (some ad) xs := hR.below (below_alloc (Below.refl _ _) _)
    have HL : ([] : List Lk).length + xs.length = xs.length := by simp
    go_wp2_with (at_builtin; refine wpList_app _ w.heap.size rfl (.tmp 5) (.tmp 6) 23 96 _ 16 rfl Tryz.underlying23 infoC rfl (by decide) (by decide) _ [] xs (some ad) c rfl rfl HO HR (by simp) (by rw [HL]; exact hl) ?_; intro v1 w1 ho hg hat)
    go_ret
    exact ⟨_, rfl, by simpa using ho, (below_alloc (Below.refl w.heap.size w) _).grown hg (by simp) (fun k hk => (HO.lt k hk).1)⟩

set_option maxHeartbeats 400000 in
set_option maxRecDepth 100000 in
theorem CloneW_any (A : Option Addr) (c : Nat) (xs : List Lt) (w : World) (hl : xs.length * 48 ≤ 140737488355328) (hR : Rd w A xs) :
    Calls Tryz.prog 68 #[.slice A xs.length c] w fun e w' => ∃ v, e = .returned v ∧ Own w' w.heap.size 33 v xs ∧ Below w.heap.size w w' := by
  have hnil := fun W n => Lib.run_eql_slice_nil (P := Tryz.prog) W 22 33 A n c 0 0 Tryz.underlying22
  cases A with
  | none =>
    have h0 : xs = [] := by
      rcases xs with _ | ⟨y, ys⟩
      · rfl
      · obtain ⟨b, off, e, _⟩ := hR 0 (by simp)
        cases e
    subst h0
    go_enter Tryz.func68, Tryz.ntmps68
    go_wp2
    go_ret
    exact ⟨_, rfl, Own.nil _ _ _, Below.refl _ _⟩
  | some ad =>
    go_enter Tryz.func68, Tryz.ntmps68
    have HO : Own (w.alloc (.cells #[] 33)) w.heap.size 33 (.slice (some ⟨w.heap.size, 0, none⟩) 0 0) ([] : List Lt) :=
      World.ownsRow_made w #[] 0 (Nat.le_refl _) (by simp [maxLen]) (by simp)
    have HR : Rd (w.alloc (.cells #[] 33)) (some ad) xs := hR.below (below_alloc (Below.refl _ _) _)
    have HL : ([] : List Lt).length + xs.length = xs.length := by simp
    go_wp2_with (at_builtin; refine wpList_app _ w.heap.size rfl (.tmp 5) (.tmp 6) 22 33 _ 48 rfl Tryz.underlying22 infoW rfl (by decide) (by decide) _ [] xs (some ad) c rfl rfl HO HR (by simp) (by rw [HL]; exact hl) ?_; intro v1 w1 ho hg hat)
    go_ret
    exact ⟨_, rfl, by simpa using ho, (below_alloc (Below.refl w.heap.size w) _).grown hg (by simp) (fun k hk => (HO.lt k hk).1)⟩

set_option maxHeartbeats 400000 in
set_option maxRecDepth 100000 in
theorem CloneT_any (A : Option Addr) (c : Nat) (xs : List Tm) (w : World) (hl : xs.length * 24 ≤ 140737488355328) (hR : Rd w A xs) :
    Calls Tryz.prog 70 #[.slice A xs.length c] w fun e w' => ∃ v, e = .returned v ∧ Own w' w.heap.size 86 v xs ∧ Below w.heap.size w w' := by
  have hnil := fun W n => Lib.run_eql_slice_nil (P := Tryz.prog) W 24 86 A n c 0 0 Tryz.underlying24
  cases A with
  | none =>
    have h0 : xs = [] := by
      rcases xs with _ | ⟨y, ys⟩
      · rfl
      · obtain ⟨b, off, e, _⟩ := hR 0 (by simp)
        cases e
    subst h0
    go_enter Tryz.func70, Tryz.ntmps70
    go_wp2
    go_ret
    exact ⟨_, rfl, Own.nil _ _ _, Below.refl _ _⟩
  | some ad =>
    go_enter Tryz.func70, Tryz.ntmps70
    have HO : Own (w.alloc (.cells #[] 86)) w.heap.size 86 (.slice (some ⟨w.heap.size, 0, none⟩) 0 0) ([] : List Tm) :=
      World.ownsRow_made w #[] 0 (Nat.le_refl _) (by simp [maxLen]) (by simp)
    have HR : Rd (w.alloc (.cells #[] 86)) (some ad) xs := hR.below (below_alloc (Below.refl _ _) _)
    have HL : ([] : List Tm).length + xs.length = xs.length := by simp
    go_wp2_with (at_builtin; refine wpList_app _ w.heap.size rfl (.tmp 5) (.tmp 6) 24 86 _ 24 rfl Tryz.underlying24 infoT rfl (by decide) (by decide) _ [] xs (some ad) c rfl rfl HO HR (by simp) (by rw [HL]; exact hl) ?_; intro v1 w1 ho hg hat)
    go_ret
    exact ⟨_, rfl, by simpa using ho, (below_alloc (Below.refl w.heap.size w) _).grown hg (by simp) (fun k hk => (HO.lt k hk).1)⟩

end Go.Proofs.YthlbmcfliejdiaaGreat
end

section
set_option linter.unusedVariables false
set_option linter.unusedSimpArgs false
namespace Go.Proofs.YthlbmcfliejdiaaGreat
open Go.RowKit

section
variable {P : Program} {ops : Array Oper} {Q : Exit → Act → World → Prop} {md : Region.Mode} {C : World → Prop} {m : Nat}

/-- Whatever order is picked; as long as operation m has not come up, C holds behind each operation. -/
def wpAnyG (P : Program) (md : Region.Mode) (ops : Array Oper) (Q : Exit → Act → World → Prop) (C : World → Prop) (m : Nat) : Nat → Array Bool → Act → World → Prop
  | 0, listed, a, w => Region.ready md ops listed = [] ∧ Q .normal a w
  | fuel + 1, listed, a, w =>
    (Region.ready md ops listed = [] → Q .normal a w) ∧
    ∀ i ∈ Region.ready md ops listed, wpOp P ops Q i (fun a' w' => ((listed.setIfInBounds i true).getD m true = false → C w') ∧ wpAnyG P md ops Q C m fuel (listed.setIfInBounds i true) a' w') a w

theorem wpAny_of_G : ∀ (fuel : Nat) (listed : Array Bool) (a : Act) (w : World), wpAnyG P md ops Q C m fuel listed a w → wpAny P md ops Q fuel listed a w
  | 0, _, _, _, h => h
  | fuel + 1, _, _, _, h => ⟨h.1, fun i hi => wpOp_mono (fun a' w' h' => wpAny_of_G fuel _ a' w' h'.2) (h.2 i hi)⟩
theorem getD_self (L : Array Bool) (i : Nat) : (L.setIfInBounds i true).getD i true = true := by
  rcases Nat.lt_or_ge i L.size with h | h
  · simp [h]
  · simp [Nat.not_lt.2 h]

theorem wpAnyG_of_any : ∀ (fuel : Nat) (listed : Array Bool) (a : Act) (w : World), (listed.getD m true = true) → wpAny P md ops Q fuel listed a w → wpAnyG P md ops Q C m fuel listed a w
  | 0, _, _, _, _, h => h
  | fuel + 1, listed, _, _, hm, h => ⟨h.1, fun i hi => wpOp_mono (fun a' w' h' => by
      have hmi : (listed.setIfInBounds i true).getD m true = true := by
        by_cases e : i = m
        · subst e; exact getD_self _ _
        · rw [getD_set_ne true e]; exact hm
      exact ⟨fun h0 => (by rw [hmi] at h0; cases h0), wpAnyG_of_any fuel _ a' w' hmi h'⟩) (h.2 i hi)⟩

theorem wpAnyG_first {i : Nat} {oi : Oper} {v : Value} (hi : ops[i]? = some oi) (hsel : ∀ (j : Nat) (o : Oper) cs b, ops[j]? = some o → o.op ≠ .select cs b)
    (hQ : ∀ c a w, Q (.panic c) (a.put oi.dst v) w → Q (.panic c) a w) (hwait : Region.waitsFor md ops m i = true) (him : i ≠ m) :
    ∀ (fuel : Nat) (listed : Array Bool) (a : Act) (w : World), listed.getD m true = false →
      (∀ j oj, ops[j]? = some oj → j ≠ i → listed.getD j true = false → (∀ e ∈ oj.after, Region.binds md e = true → e.on ≠ i) → oi.apart ops oj = true) →
      i ∈ Region.ready md ops listed → YieldsIf P ops C oi v a → C w →
      wpAnyG P md ops Q C m fuel (listed.setIfInBounds i true) (a.put oi.dst v) w → wpAnyG P md ops Q C m (fuel + 1) listed a w := by
  intro fuel
  induction fuel with
  | zero =>
    intro listed a w _ _ hr hy hS H
    refine ⟨fun h => (by rw [h] at hr; cases hr), fun j hj => ?_⟩
    by_cases hji : j = i
    · subst hji; exact hy.wpOp hi hS ⟨fun _ => hS, H⟩
    · have := ready_mono hj hji
      rw [H.1] at this
      cases this
  | succ fuel ih =>
    intro listed a w hml hfree hr hy hS H
    refine ⟨fun h => (by rw [h] at hr; cases hr), fun j hj => ?_⟩
    by_cases hji : j = i
    · subst hji; exact hy.wpOp hi hS ⟨fun _ => hS, H⟩
    · have h1 := H.2 j (ready_mono hj hji)
      obtain ⟨hjun, oj, hoj, hall⟩ := mem_ready.1 hj
      have hnot : ∀ e ∈ oj.after, Region.binds md e = true → e.on ≠ i := fun e he hb heq => by
        have h1 := hall e he hb
        have h0 := (mem_ready.1 hr).1
        rw [heq] at h1
        rcases Nat.lt_or_ge i listed.size with h' | h'
        · simp [h'] at h0 h1; rw [h0] at h1; cases h1
        · simp [Array.getElem?_eq_none h'] at h1
      have hjm : j ≠ m := by
        rintro rfl
        obtain ⟨o', ho', e, he, hb, hon⟩ := Region.waitsFor_spec hwait
        have : o' = oj := Option.some.inj (ho'.symm.trans hoj)
        subst this
        exact hnot e he hb hon
      have h2 := wpOp_putIf hoj (hfree j oj hoj hji hjun hnot) (fun cs b => hsel i oi cs b hi) (fun cs b => hsel j oj cs b hoj) hQ hy h1
      have hfree' : ∀ k ok, ops[k]? = some ok → k ≠ i → (listed.setIfInBounds j true).getD k true = false →
          (∀ e ∈ ok.after, Region.binds md e = true → e.on ≠ i) → oi.apart ops ok = true := fun k ok hk hki hun hno => by
        refine hfree k ok hk hki ?_ hno
        by_cases hjk : j = k
        · subst hjk; exact hjun
        · rw [getD_set_ne true hjk] at hun; exact hun
      have hmj : (listed.setIfInBounds j true).getD m true = false := by rw [getD_set_ne true hjm]; exact hml
      have hmij : ((listed.setIfInBounds i true).setIfInBounds j true).getD m true = false := by rw [getD_set_ne true hjm, getD_set_ne true him]; exact hml
      refine wpOp_mono (fun a' w' h3 => ⟨fun _ => h3.2.1 hmij, ih (listed.setIfInBounds j true) a' w' hmj hfree' (ready_mono hr (Ne.symm hji)) h3.1 (h3.2.1 hmij) ?_⟩) h2
      rw [Array.setIfInBounds_comm _ _ hji]
      exact h3.2.2

/-- The walk: an operation that yields one value in every world of C ('true'), or an effect ('false'); then K. -/
def wpMix (P : Program) (ops : Array Oper) (C : World → Prop) (K : Act → World → Prop) (Q : Exit → Act → World → Prop) : List (Oper × Bool) → Act → World → Prop
  | [], a, w => K a w
  | (o, true) :: r, a, w => ∃ v, YieldsIf P ops C o v a ∧ wpMix P ops C K Q r (a.put o.dst v) w
  | (o, false) :: r, a, w => wpList P ops (Exit.then (fun a' w' => C w' ∧ wpMix P ops C K Q r a' w') Q) [o] a w

theorem mix_nil {K : Act → World → Prop} {a : Act} {w : World} (h : K a w) : wpMix P ops C K Q [] a w := h
theorem mix_take {K : Act → World → Prop} {a : Act} {w : World} {o : Oper} {r : List (Oper × Bool)} (v : Value) (hw : Region.wanted o (yielded ops a.tmps) = true) (hy : ∀ W, C W → (execOp a.eval o).run P W = .ok (.value v) W) (h : wpMix P ops C K Q r (a.put o.dst v) w) :
    wpMix P ops C K Q ((o, true) :: r) a w := ⟨v, .inl ⟨hw, hy⟩, h⟩
theorem mix_skip {K : Act → World → Prop} {a : Act} {w : World} {o : Oper} {r : List (Oper × Bool)} (hw : Region.wanted o (yielded ops a.tmps) = false) (h : wpMix P ops C K Q r (a.put o.dst undef) w) :
    wpMix P ops C K Q ((o, true) :: r) a w := ⟨undef, .inr ⟨hw, rfl⟩, h⟩
theorem mix_do {K : Act → World → Prop} {a : Act} {w : World} {o : Oper} {r : List (Oper × Bool)} (h : ∀ K' : Act → World → Prop, (∀ a' w', C w' → wpMix P ops C K Q r a' w' → K' a' w') → wpList P ops (Exit.then K' Q) [o] a w) :
    wpMix P ops C K Q ((o, false) :: r) a w := h _ (fun a' w' h1 h2 => ⟨h1, h2⟩)

def Region.mixB (md : Region.Mode) (ops : Array Oper) (n : Nat) : List (Nat × Bool) → Array Bool → Bool
  | [], L => Region.seqB md ops (ops.size - n) n L
  | (i, true) :: r, L => (Region.ready md ops L).contains i && Region.free md ops L i && Region.waitsFor md ops n i && !decide (i = n) && !(L.getD n true) && Region.mixB md ops n r (L.setIfInBounds i true)
  | (i, false) :: r, L => decide (Region.ready md ops L = [i]) && !decide (i = n) && !(L.getD n true) && Region.mixB md ops n r (L.setIfInBounds i true)

def pick (l : List Oper) (s : List (Nat × Bool)) : List (Oper × Bool) := s.map fun p => (l.getD p.1 default, p.2)

theorem wpAnyG_of_mix {l : List Oper} {n : Nat} (hsel : Region.noSelect l.toArray = true) (hQ : ∀ (d : Option Tmp) (v : Value) c a w, Q (.panic c) (a.put d v) w → Q (.panic c) a w) (hn : n < l.length) :
    ∀ (s : List (Nat × Bool)) (L : Array Bool) (a : Act) (w : World), (∀ p ∈ s, p.1 < l.length) → Region.mixB md l.toArray n s L = true → C w →
      wpMix P l.toArray C (fun a' w' => wpList P l.toArray Q (l.drop n) a' w') Q (pick l s) a w → wpAnyG P md l.toArray Q C n (s.length + (l.length - n)) L a w
  | [], L, a, w, _, hB, hC, h => by
    have hdl : (l.drop n).length = l.length - n := by simp
    have hB' : Region.seqB md l.toArray (l.drop n).length n L = true := by rw [hdl]; simpa [Region.mixB] using hB
    have hw := wpAny_of_seq (md := md) (Q' := Q) (l.drop n) n L a w (fun j => by simp [List.getElem?_drop]) hB' h
    rw [hdl] at hw
    rw [List.length_nil, Nat.zero_add]
    -- the first of the tail is n: behind it nothing is asked of C
    obtain ⟨g, hg⟩ : ∃ g, l.length - n = g + 1 := ⟨l.length - n - 1, by omega⟩
    rw [hg] at hw ⊢
    refine ⟨hw.1, fun i hi => wpOp_mono (fun a' w' h' => ?_) (hw.2 i hi)⟩
    have hin : i = n := by
      rw [hdl, hg] at hB'
      simp only [Region.seqB, Bool.and_eq_true, decide_eq_true_eq] at hB'
      rw [hB'.1] at hi
      simpa using hi
    subst hin
    have hmi : (L.setIfInBounds i true).getD i true = true := getD_self _ _
    exact ⟨fun h0 => (by rw [hmi] at h0; cases h0), wpAnyG_of_any _ _ _ _ hmi h'⟩
  | (i, true) :: s, L, a, w, hs, hB, hC, h => by
    have hil : i < l.length := hs (i, true) (by simp)
    have h0 : l.toArray[i]? = some (l.getD i default) := by simp [List.getD_eq_getElem?_getD, List.getElem?_eq_getElem hil]
    simp only [Region.mixB, Bool.and_eq_true, Bool.not_eq_true', decide_eq_false_iff_not] at hB
    obtain ⟨⟨⟨⟨⟨hr, hf⟩, hwt⟩, hin⟩, hL⟩, hB'⟩ := hB
    obtain ⟨v, hy, hK⟩ := h
    have hr' : i ∈ Region.ready md l.toArray L := by simpa using hr
    rw [List.length_cons, show s.length + 1 + (l.length - n) = s.length + (l.length - n) + 1 by omega]
    exact wpAnyG_first h0 (Region.noSelect_spec hsel) (fun c a w => hQ _ _ c a w) hwt hin _ L a w hL (Region.free_spec h0 hf) hr' hy hC
      (wpAnyG_of_mix hsel hQ hn s _ _ w (fun p hp => hs p (List.mem_cons_of_mem _ hp)) hB' hC hK)
  | (i, false) :: s, L, a, w, hs, hB, hC, h => by
    have hil : i < l.length := hs (i, false) (by simp)
    have h0 : l.toArray[i]? = some (l.getD i default) := by simp [List.getD_eq_getElem?_getD, List.getElem?_eq_getElem hil]
    simp only [Region.mixB, Bool.and_eq_true, Bool.not_eq_true', decide_eq_false_iff_not, decide_eq_true_eq] at hB
    obtain ⟨⟨⟨hr, hin⟩, hL⟩, hB'⟩ := hB
    rw [List.length_cons, show s.length + 1 + (l.length - n) = s.length + (l.length - n) + 1 by omega]
    refine ⟨fun h1 => (by rw [hr] at h1; cases h1), fun j hj => ?_⟩
    rw [hr] at hj
    obtain rfl : j = i := by simpa using hj
    have hw : wpOp P l.toArray Q j (fun a' w' => C w' ∧ wpMix P l.toArray C (fun a' w' => wpList P l.toArray Q (l.drop n) a' w') Q (pick l s) a' w') a w := by
      unfold wpOp
      simp only [h0]
      have h2 : wpList P l.toArray (Exit.then (fun a' w' => C w' ∧ wpMix P l.toArray C (fun a' w' => wpList P l.toArray Q (l.drop n) a' w') Q (pick l s) a' w') Q) [l.getD j default] a w := h
      unfold wpList at h2
      split
      · rename_i hw
        simp only [hw, if_true] at h2
        rcases h2 with h2 | h2
        · left
          unfold Oper.wp at *
          generalize (execOp a.eval (l.getD j default)).run P w = r at *
          cases r with
          | ok nx w' =>
            cases nx <;> simp only [Oper.upon] at h2 ⊢
            case value u => exact h2
            case skip => exact h2
            case defer d => exact h2
            case enter f args =>
              refine Calls.mono h2 fun e w'' he => ?_
              cases e with
              | returned u => exact he
              | panicked c => exact he
              | outgrown => exact he
            case row row args => exact Rows.mono h2 fun u w'' he => he
          | halt x w' =>
            cases x <;> simp only [Oper.upon] at h2 ⊢
            case panic u => exact h2
        · right
          exact h2
      · rename_i hw
        simp only [hw] at h2
        exact h2
    exact wpOp_mono (fun a' w' h' => ⟨fun _ => h'.1, wpAnyG_of_mix hsel hQ hn s _ a' w' (fun p hp => hs p (List.mem_cons_of_mem _ hp)) hB' h'.1 h'.2⟩) hw

theorem wp_mix {id : Nat} {a : Act} {w : World} {l : List Oper} (s : List (Nat × Bool)) (n : Nat) (C : World → Prop) (hm : P.follows .mixedOrders = true) (hsel : Region.noSelect l.toArray = true)
    (hs : (s.all fun p => decide (p.1 < l.length)) = true) (hn : (decide (n < l.length) && decide (s.length + (l.length - n) = l.length)) = true) (hB : Region.mixB .any l.toArray n s (Array.replicate l.length false) = true)
    (hQ : ∀ (d : Option Tmp) (v : Value) c a w, Q (.panic c) (a.put d v) w → Q (.panic c) a w) (hC : C w.drew)
    (h : wpMix P l.toArray C (fun a' w' => wpList P l.toArray Q (l.drop n) a' w') Q (pick l s) a w.drew) : (Code.region id l.toArray true).wp P Q a w := by
  simp only [Bool.and_eq_true, decide_eq_true_eq] at hn
  have hG := wpAnyG_of_mix (md := .any) hsel hQ hn.1 s _ a w.drew (fun p hp => by simpa using List.all_eq_true.1 hs p hp) hB hC h
  rw [hn.2] at hG
  refine wp_region_any hm (wpAny_of_G (C := C) (m := n) _ _ _ _ ?_)
  simpa using hG
end
end Go.Proofs.YthlbmcfliejdiaaGreat
end

section
set_option linter.unusedVariables false
set_option linter.unusedSimpArgs false
namespace Go.Proofs.YthlbmcfliejdiaaGreat
open Go.RowKit

section
variable {P : Program} {ops : Array Oper} {Q : Exit → Act → World → Prop} {md : Region.Mode} {C : World → Prop} {m u : Nat}

theorem wide_fn (f : FuncId) : Fence.wide.fn f := trivial

theorem YieldsIf.wpOpIn' {i : Nat} {o : Oper} {v : Value} {a : Act} (hi : ops[i]? = some o) (hy : YieldsIf P ops C o v a)
    {K : Act → World → Prop} {w : World} (hS : C w) (h : K (a.put o.dst v) w) : wpOpIn Fence.wide u P ops Q i K a w := by
  unfold Go.wpOpIn
  simp only [hi]
  rcases hy with ⟨hw, hv⟩ | ⟨hw, rfl⟩
  · simp only [hw, if_true, Oper.wpIn, show Fence.wide.round = none from rfl, Oper.semAt_none, hv w hS, Oper.uponIn]; exact ⟨fun f _ => wide_fn f, h⟩
  · simp only [hw, Bool.false_eq_true, if_false]; exact ⟨fun f _ => wide_fn f, h⟩

theorem wpOpIn_putIf {j : Nat} {oi oj : Oper} {v : Value} (hj : ops[j]? = some oj) (hap : oi.apart ops oj = true)
    (hsi : ∀ cs b, oi.op ≠ .select cs b) (hsj : ∀ cs b, oj.op ≠ .select cs b)
    (hQ : ∀ c a w, Q (.panic c) (a.put oi.dst v) w → Q (.panic c) a w) {K : Act → World → Prop} {a : Act} {w : World}
    (hy : YieldsIf P ops C oi v a) (h : wpOpIn Fence.wide u P ops Q j K (a.put oi.dst v) w) :
    wpOpIn Fence.wide u P ops Q j (fun a' w' => YieldsIf P ops C oi v a' ∧ K (a'.put oi.dst v) w') a w := by
  obtain ⟨h1, h2, h3⟩ := Oper.apart_spec hap
  have keep : ∀ (a : Act), YieldsIf P ops C oi v a → ∀ z, YieldsIf P ops C oi v (a.put oj.dst z) := fun a hy z =>
    hy.of_same (execOp_put oi hsi a oj.dst z h3) (wanted_put oi a oj.dst z h3)
  have keepD : ∀ d, YieldsIf P ops C oi v { a with defers := d :: a.defers } := fun d => hy.of_same rfl rfl
  unfold wpOpIn at *
  simp only [hj] at *
  rw [wanted_put oj a oi.dst v h1] at h
  split
  · rename_i hw
    simp only [hw, if_true] at h
    unfold Oper.wpIn at *
    refine ⟨fun f _ => wide_fn f, ?_⟩
    have h := h.2
    rw [show Fence.wide.round = none from rfl, Oper.semAt_none, execOp_put oj hsj a oi.dst v h1] at h
    rw [show Fence.wide.round = none from rfl, Oper.semAt_none]
    generalize (execOp a.eval oj).run P w = r at *
    cases r with
    | ok x w' =>
      cases x <;> simp only [Oper.uponIn] at h ⊢
      case value z => exact ⟨keep a hy z, by rw [← Act.put_comm a v z h2]; exact h⟩
      case skip => exact ⟨keep a hy _, by rw [← Act.put_comm a v undef h2]; exact h⟩
      case defer d =>
        refine ⟨keep _ (keepD d) _, ?_⟩
        rw [← Act.put_comm _ v undef h2, ← Act.put_defers]
        exact h
      case enter f args =>
        refine ⟨h.1, CallsIn.mono h.2 fun e w'' he => ?_⟩
        cases e with
        | returned z => exact ⟨keep a hy z, by rw [← Act.put_comm a v z h2]; exact he⟩
        | panicked c => exact hQ _ _ _ he
        | outgrown => exact he
      case row row args => exact ⟨h.1, RowsIn.mono h.2 fun z w'' he => ⟨keep a hy z, by rw [← Act.put_comm a v z h2]; exact he⟩⟩
      case round l f tmps assign body =>
        refine ⟨h.1, RoundIn.mono h.2 fun e w'' he => ?_⟩
        cases e with
        | returned z => exact ⟨keep a hy z, by rw [← Act.put_comm a v z h2]; exact he⟩
        | panicked c => exact hQ _ _ _ he
        | outgrown => exact he
    | halt x w' =>
      cases x <;> simp only [Oper.uponIn] at h ⊢
      case panic z => exact hQ _ _ _ h
  · rename_i hw
    simp only [hw] at h
    exact ⟨fun f _ => wide_fn f, keep a hy _, by rw [← Act.put_comm a v undef h2]; exact h.2⟩

theorem getD_ft {L : Array Bool} {k : Nat} (h : L.getD k false = true) : L.getD k true = true := by
  rcases Nat.lt_or_ge k L.size with h' | h'
  · simp [h'] at h ⊢; exact h
  · simp [Array.getElem?_eq_none h'] at h
/-- What is listed waits for nothing that is not. -/
def Closed (md : Region.Mode) (ops : Array Oper) (L : Array Bool) : Prop := ∀ k ok, ops[k]? = some ok → L.getD k true = true → ∀ e ∈ ok.after, Region.binds md e = true → L.getD e.on true = true
def Region.waitsT (md : Region.Mode) (ops : Array Oper) : Nat → Nat → Nat → Bool
  | 0, _, _ => false
  | f + 1, m, i => match ops[m]? with
    | none => false
    | some o => o.after.any fun e => Region.binds md e && (decide (e.on = i) || Region.waitsT md ops f e.on i)
theorem waitsT_listed {L : Array Bool} {i : Nat} (hc : Closed md ops L) : ∀ (f m : Nat), (∀ o, ops[m]? = some o → ∀ e ∈ o.after, Region.binds md e = true → L.getD e.on true = true) → Region.waitsT md ops f m i = true → L.getD i true = true
  | 0, m, _, h => by simp [Region.waitsT] at h
  | f + 1, m, hm, h => by
    unfold Region.waitsT at h
    cases ho : ops[m]? with
    | none => simp [ho] at h
    | some o =>
      simp only [ho, Array.any_eq_true', Bool.and_eq_true, Bool.or_eq_true, decide_eq_true_eq] at h
      obtain ⟨e, he, hb, h⟩ := h
      have hL := hm o ho e he hb
      rcases h with rfl | h
      · exact hL
      · exact waitsT_listed hc f e.on (fun o' ho' e' he' hb' => hc e.on o' ho' hL e' he' hb') h
theorem Closed.set {L : Array Bool} {j : Nat} (hc : Closed md ops L) (hj : j ∈ Region.ready md ops L) : Closed md ops (L.setIfInBounds j true) := by
  intro k ok hk hkl e he hb
  obtain ⟨_, oj, hoj, hall⟩ := mem_ready.1 hj
  have hL : L.getD e.on true = true := by
    by_cases hkj : k = j
    · subst hkj
      rw [hoj] at hk
      cases hk
      exact getD_ft (hall e he hb)
    · rw [getD_set_ne true (Ne.symm hkj)] at hkl
      exact hc k ok hk hkl e he hb
  by_cases h : e.on = j
  · rw [h]; exact getD_self _ _
  · rw [getD_set_ne true (Ne.symm h)]; exact hL

def wpAnyGI (u : Nat) (P : Program) (md : Region.Mode) (ops : Array Oper) (Q : Exit → Act → World → Prop) (C : World → Prop) (m : Nat) : Nat → Array Bool → Act → World → Prop
  | 0, listed, a, w => Region.ready md ops listed = [] ∧ Q .normal a w
  | fuel + 1, listed, a, w =>
    (Region.ready md ops listed = [] → Q .normal a w) ∧
    ∀ i ∈ Region.ready md ops listed, wpOpIn Fence.wide u P ops Q i (fun a' w' => ((listed.setIfInBounds i true).getD m true = false → C w') ∧ wpAnyGI u P md ops Q C m fuel (listed.setIfInBounds i true) a' w') a w

theorem wpAnyIn_of_G : ∀ (fuel : Nat) (listed : Array Bool) (a : Act) (w : World), wpAnyGI u P md ops Q C m fuel listed a w → wpAnyIn Fence.wide u P md ops Q fuel listed a w
  | 0, _, _, _, h => h
  | fuel + 1, _, _, _, h => ⟨h.1, fun i hi => wpOpIn_mono (fun a' w' h' => wpAnyIn_of_G fuel _ a' w' h'.2) (h.2 i hi)⟩

theorem wpAnyGI_of_any : ∀ (fuel : Nat) (listed : Array Bool) (a : Act) (w : World), (listed.getD m true = true) → wpAnyIn Fence.wide u P md ops Q fuel listed a w → wpAnyGI u P md ops Q C m fuel listed a w
  | 0, _, _, _, _, h => h
  | fuel + 1, listed, _, _, hm, h => ⟨h.1, fun i hi => wpOpIn_mono (fun a' w' h' => by
      have hmi : (listed.setIfInBounds i true).getD m true = true := by
        by_cases e : i = m
        · subst e; exact getD_self _ _
        · rw [getD_set_ne true e]; exact hm
      exact ⟨fun h0 => (by rw [hmi] at h0; cases h0), wpAnyGI_of_any fuel _ a' w' hmi h'⟩) (h.2 i hi)⟩

theorem wpAnyGI_first {i : Nat} {oi : Oper} {v : Value} (hi : ops[i]? = some oi) (hsel : ∀ (j : Nat) (o : Oper) cs b, ops[j]? = some o → o.op ≠ .select cs b)
    (hQ : ∀ c a w, Q (.panic c) (a.put oi.dst v) w → Q (.panic c) a w) {fw : Nat} (hwait : Region.waitsT md ops fw m i = true) (him : i ≠ m) :
    ∀ (fuel : Nat) (listed : Array Bool) (a : Act) (w : World), Closed md ops listed → listed.getD m true = false →
      (∀ j oj, ops[j]? = some oj → j ≠ i → listed.getD j true = false → (∀ e ∈ oj.after, Region.binds md e = true → e.on ≠ i) → oi.apart ops oj = true) →
      i ∈ Region.ready md ops listed → YieldsIf P ops C oi v a → C w →
      wpAnyGI u P md ops Q C m fuel (listed.setIfInBounds i true) (a.put oi.dst v) w → wpAnyGI u P md ops Q C m (fuel + 1) listed a w := by
  intro fuel
  induction fuel with
  | zero =>
    intro listed a w _ _ _ hr hy hS H
    refine ⟨fun h => (by rw [h] at hr; cases hr), fun j hj => ?_⟩
    by_cases hji : j = i
    · subst hji; exact YieldsIf.wpOpIn' hi hy hS ⟨fun _ => hS, H⟩
    · have := ready_mono hj hji
      rw [H.1] at this
      cases this
  | succ fuel ih =>
    intro listed a w hcl hml hfree hr hy hS H
    refine ⟨fun h => (by rw [h] at hr; cases hr), fun j hj => ?_⟩
    by_cases hji : j = i
    · subst hji; exact YieldsIf.wpOpIn' hi hy hS ⟨fun _ => hS, H⟩
    · have h1 := H.2 j (ready_mono hj hji)
      obtain ⟨hjun, oj, hoj, hall⟩ := mem_ready.1 hj
      have hnot : ∀ e ∈ oj.after, Region.binds md e = true → e.on ≠ i := fun e he hb heq => by
        have h1 := hall e he hb
        have h0 := (mem_ready.1 hr).1
        rw [heq] at h1
        rcases Nat.lt_or_ge i listed.size with h' | h'
        · simp [h'] at h0 h1; rw [h0] at h1; cases h1
        · simp [Array.getElem?_eq_none h'] at h1
      have hjm : j ≠ m := by
        rintro rfl
        have h2 := waitsT_listed hcl fw j (fun o ho e he hb => by
          have : o = oj := Option.some.inj (ho.symm.trans hoj)
          subst this
          exact getD_ft (hall e he hb)) hwait
        have h0 := (mem_ready.1 hr).1
        rcases Nat.lt_or_ge i listed.size with h' | h'
        · simp [h'] at h0 h2; rw [h0] at h2; cases h2
        · simp [Array.getElem?_eq_none h'] at h0
      have h2 := wpOpIn_putIf hoj (hfree j oj hoj hji hjun hnot) (fun cs b => hsel i oi cs b hi) (fun cs b => hsel j oj cs b hoj) hQ hy h1
      have hfree' : ∀ k ok, ops[k]? = some ok → k ≠ i → (listed.setIfInBounds j true).getD k true = false →
          (∀ e ∈ ok.after, Region.binds md e = true → e.on ≠ i) → oi.apart ops ok = true := fun k ok hk hki hun hno => by
        refine hfree k ok hk hki ?_ hno
        by_cases hjk : j = k
        · subst hjk; exact hjun
        · rw [getD_set_ne true hjk] at hun; exact hun
      have hmj : (listed.setIfInBounds j true).getD m true = false := by rw [getD_set_ne true hjm]; exact hml
      have hmij : ((listed.setIfInBounds i true).setIfInBounds j true).getD m true = false := by rw [getD_set_ne true hjm, getD_set_ne true him]; exact hml
      refine wpOpIn_mono (fun a' w' h3 => ⟨fun _ => h3.2.1 hmij, ih (listed.setIfInBounds j true) a' w' (hcl.set hj) hmj hfree' (ready_mono hr (Ne.symm hji)) h3.1 (h3.2.1 hmij) ?_⟩) h2
      rw [Array.setIfInBounds_comm _ _ hji]
      exact h3.2.2

theorem wpAnyIn_of_seq {Q' : Exit → Act → World → Prop} : ∀ (l : List Oper) (k : Nat) (listed : Array Bool) (a : Act) (w : World), (∀ j, l[j]? = ops[k + j]?) →
    Region.seqB md ops l.length k listed = true → wpListIn Fence.wide u P ops Q' l a w → wpAnyIn Fence.wide u P md ops Q' l.length listed a w
  | [], _, _, _, _, _, hB, h => ⟨by simpa [Region.seqB] using hB, h⟩
  | o :: l, k, listed, a, w, hl, hB, h => by
    have h0 : ops[k]? = some o := by simpa using (hl 0).symm
    simp only [List.length_cons, Region.seqB, Bool.and_eq_true, decide_eq_true_eq] at hB
    refine ⟨fun h1 => (by rw [hB.1] at h1; cases h1), fun i hi => ?_⟩
    rw [hB.1] at hi
    have hik : i = k := by simpa using hi
    subst hik
    have hw : wpOpIn Fence.wide u P ops Q' i (wpListIn Fence.wide u P ops Q' l) a w := by unfold wpOpIn; simp only [h0]; exact h
    exact wpOpIn_mono (fun a' w' h' => wpAnyIn_of_seq l (i + 1) _ a' w' (fun j => by have := hl (j + 1); simpa [Nat.add_assoc, Nat.add_comm 1 j] using this) hB.2 h') hw

def wpMixIn (u : Nat) (P : Program) (ops : Array Oper) (C : World → Prop) (K : Act → World → Prop) (Q : Exit → Act → World → Prop) : List (Oper × Bool) → Act → World → Prop
  | [], a, w => K a w
  | (o, true) :: r, a, w => ∃ v, YieldsIf P ops C o v a ∧ wpMixIn u P ops C K Q r (a.put o.dst v) w
  | (o, false) :: r, a, w => wpListIn Fence.wide u P ops (Exit.then (fun a' w' => C w' ∧ wpMixIn u P ops C K Q r a' w') Q) [o] a w

theorem mixIn_nil {K : Act → World → Prop} {a : Act} {w : World} (h : K a w) : wpMixIn u P ops C K Q [] a w := h
theorem mixIn_take {K : Act → World → Prop} {a : Act} {w : World} {o : Oper} {r : List (Oper × Bool)} (v : Value) (hw : Region.wanted o (yielded ops a.tmps) = true) (hy : ∀ W, C W → (execOp a.eval o).run P W = .ok (.value v) W) (h : wpMixIn u P ops C K Q r (a.put o.dst v) w) :
    wpMixIn u P ops C K Q ((o, true) :: r) a w := ⟨v, .inl ⟨hw, hy⟩, h⟩
theorem mixIn_skip {K : Act → World → Prop} {a : Act} {w : World} {o : Oper} {r : List (Oper × Bool)} (hw : Region.wanted o (yielded ops a.tmps) = false) (h : wpMixIn u P ops C K Q r (a.put o.dst undef) w) :
    wpMixIn u P ops C K Q ((o, true) :: r) a w := ⟨undef, .inr ⟨hw, rfl⟩, h⟩
theorem mixIn_do {K : Act → World → Prop} {a : Act} {w : World} {o : Oper} {r : List (Oper × Bool)} (h : ∀ K' : Act → World → Prop, (∀ a' w', C w' → wpMixIn u P ops C K Q r a' w' → K' a' w') → wpListIn Fence.wide u P ops (Exit.then K' Q) [o] a w) :
    wpMixIn u P ops C K Q ((o, false) :: r) a w := h _ (fun a' w' h1 h2 => ⟨h1, h2⟩)

def Region.mixTB (md : Region.Mode) (ops : Array Oper) (n : Nat) : List (Nat × Bool) → Array Bool → Bool
  | [], L => Region.seqB md ops (ops.size - n) n L
  | (i, true) :: r, L => (Region.ready md ops L).contains i && Region.free md ops L i && Region.waitsT md ops 40 n i && !decide (i = n) && !(L.getD n true) && Region.mixTB md ops n r (L.setIfInBounds i true)
  | (i, false) :: r, L => decide (Region.ready md ops L = [i]) && !decide (i = n) && !(L.getD n true) && Region.mixTB md ops n r (L.setIfInBounds i true)

theorem wpAnyGI_of_mix {l : List Oper} {n : Nat} (hsel : Region.noSelect l.toArray = true) (hQ : ∀ (d : Option Tmp) (v : Value) c a w, Q (.panic c) (a.put d v) w → Q (.panic c) a w) (hn : n < l.length) :
    ∀ (s : List (Nat × Bool)) (L : Array Bool) (a : Act) (w : World), (∀ p ∈ s, p.1 < l.length) → Region.mixTB md l.toArray n s L = true → Closed md l.toArray L → C w →
      wpMixIn u P l.toArray C (fun a' w' => wpListIn Fence.wide u P l.toArray Q (l.drop n) a' w') Q (pick l s) a w → wpAnyGI u P md l.toArray Q C n (s.length + (l.length - n)) L a w
  | [], L, a, w, _, hB, _, hC, h => by
    have hdl : (l.drop n).length = l.length - n := by simp
    have hB' : Region.seqB md l.toArray (l.drop n).length n L = true := by rw [hdl]; simpa [Region.mixTB] using hB
    have hw := wpAnyIn_of_seq (md := md) (Q' := Q) (l.drop n) n L a w (fun j => by simp [List.getElem?_drop]) hB' h
    rw [hdl] at hw
    rw [List.length_nil, Nat.zero_add]
    obtain ⟨g, hg⟩ : ∃ g, l.length - n = g + 1 := ⟨l.length - n - 1, by omega⟩
    rw [hg] at hw ⊢
    refine ⟨hw.1, fun i hi => wpOpIn_mono (fun a' w' h' => ?_) (hw.2 i hi)⟩
    have hin : i = n := by
      rw [hdl, hg] at hB'
      simp only [Region.seqB, Bool.and_eq_true, decide_eq_true_eq] at hB'
      rw [hB'.1] at hi
      simpa using hi
    subst hin
    have hmi : (L.setIfInBounds i true).getD i true = true := getD_self _ _
    exact ⟨fun h0 => (by rw [hmi] at h0; cases h0), wpAnyGI_of_any _ _ _ _ hmi h'⟩
  | (i, true) :: s, L, a, w, hs, hB, hcl, hC, h => by
    have hil : i < l.length := hs (i, true) (by simp)
    have h0 : l.toArray[i]? = some (l.getD i default) := by simp [List.getD_eq_getElem?_getD, List.getElem?_eq_getElem hil]
    simp only [Region.mixTB, Bool.and_eq_true, Bool.not_eq_true', decide_eq_false_iff_not] at hB
    obtain ⟨⟨⟨⟨⟨hr, hf⟩, hwt⟩, hin⟩, hL⟩, hB'⟩ := hB
    obtain ⟨v, hy, hK⟩ := h
    have hr' : i ∈ Region.ready md l.toArray L := by simpa using hr
    rw [List.length_cons, show s.length + 1 + (l.length - n) = s.length + (l.length - n) + 1 by omega]
    exact wpAnyGI_first h0 (Region.noSelect_spec hsel) (fun c a w => hQ _ _ c a w) hwt hin _ L a w hcl hL (Region.free_spec h0 hf) hr' hy hC
      (wpAnyGI_of_mix hsel hQ hn s _ _ w (fun p hp => hs p (List.mem_cons_of_mem _ hp)) hB' (hcl.set hr') hC hK)
  | (i, false) :: s, L, a, w, hs, hB, hcl, hC, h => by
    have hil : i < l.length := hs (i, false) (by simp)
    have h0 : l.toArray[i]? = some (l.getD i default) := by simp [List.getD_eq_getElem?_getD, List.getElem?_eq_getElem hil]
    simp only [Region.mixTB, Bool.and_eq_true, Bool.not_eq_true', decide_eq_false_iff_not, decide_eq_true_eq] at hB
    obtain ⟨⟨⟨hr, hin⟩, hL⟩, hB'⟩ := hB
    rw [List.length_cons, show s.length + 1 + (l.length - n) = s.length + (l.length - n) + 1 by omega]
    refine ⟨fun h1 => (by rw [hr] at h1; cases h1), fun j hj => ?_⟩
    rw [hr] at hj
    obtain rfl : j = i := by simpa using hj
    have hjr : j ∈ Region.ready md l.toArray L := by rw [hr]; simp
    have hw : wpOpIn Fence.wide u P l.toArray Q j (fun a' w' => C w' ∧ wpMixIn u P l.toArray C (fun a' w' => wpListIn Fence.wide u P l.toArray Q (l.drop n) a' w') Q (pick l s) a' w') a w := by
      unfold wpOpIn
      simp only [h0]
      have h2 : wpListIn Fence.wide u P l.toArray (Exit.then (fun a' w' => C w' ∧ wpMixIn u P l.toArray C (fun a' w' => wpListIn Fence.wide u P l.toArray Q (l.drop n) a' w') Q (pick l s) a' w') Q) [l.getD j default] a w := h
      unfold wpListIn at h2
      split
      · rename_i hw
        simp only [hw, if_true] at h2
        refine ⟨fun f _ => wide_fn f, ?_⟩
        have h2 := h2.2
        generalize ((l.getD j default).semAt Fence.wide.round a.eval).run P w = r at *
        cases r with
        | ok nx w' =>
          cases nx <;> simp only [Oper.uponIn] at h2 ⊢
          case value z => exact h2
          case skip => exact h2
          case defer d => exact h2
          case enter f args =>
            refine ⟨h2.1, CallsIn.mono h2.2 fun e w'' he => ?_⟩
            cases e with
            | returned z => exact he
            | panicked c => exact he
            | outgrown => exact he
          case row row args => exact ⟨h2.1, RowsIn.mono h2.2 fun z w'' he => he⟩
          case round lp f tmps assign body =>
            refine ⟨h2.1, RoundIn.mono h2.2 fun e w'' he => ?_⟩
            cases e with
            | returned z => exact he
            | panicked c => exact he
            | outgrown => exact he
        | halt x w' =>
          cases x <;> simp only [Oper.uponIn] at h2 ⊢
          case panic z => exact h2
      · rename_i hw
        simp only [hw] at h2
        exact h2
    exact wpOpIn_mono (fun a' w' h' => ⟨fun _ => h'.1, wpAnyGI_of_mix hsel hQ hn s _ a' w' (fun p hp => hs p (List.mem_cons_of_mem _ hp)) hB' (hcl.set hjr) h'.1 h'.2⟩) hw

theorem wpIn_mix {id : Nat} {a : Act} {w : World} {l : List Oper} (s : List (Nat × Bool)) (n : Nat) (C : World → Prop) (hm : P.follows .mixedOrders = true) (hsel : Region.noSelect l.toArray = true)
    (hs : (s.all fun p => decide (p.1 < l.length)) = true) (hn : (decide (n < l.length) && decide (s.length + (l.length - n) = l.length)) = true) (hB : Region.mixTB .any l.toArray n s (Array.replicate l.length false) = true)
    (hQ : ∀ (d : Option Tmp) (v : Value) c a w, Q (.panic c) (a.put d v) w → Q (.panic c) a w) (hC : C w.drew)
    (h : wpMixIn u P l.toArray C (fun a' w' => wpListIn Fence.wide u P l.toArray Q (l.drop n) a' w') Q (pick l s) a w.drew) : (Code.region id l.toArray true).wpIn Fence.wide u P Q a w := by
  simp only [Bool.and_eq_true, decide_eq_true_eq] at hn
  have hG := wpAnyGI_of_mix (md := .any) hsel hQ hn.1 s _ a w.drew (fun p hp => by simpa using List.all_eq_true.1 hs p hp) hB (fun k ok hk hkl => by
    have hk2 := (Array.getElem?_eq_some_iff.1 hk).1
    simp only [List.size_toArray] at hk2
    simp [hk2] at hkl) hC h
  rw [hn.2] at hG
  refine wpIn_region_any hm (wpAnyIn_of_G (C := C) (m := n) _ _ _ _ ?_)
  simpa using hG
end
end Go.Proofs.YthlbmcfliejdiaaGreat
end

section
set_option linter.unusedVariables false
set_option linter.unusedSimpArgs false
namespace Go.Proofs.YthlbmcfliejdiaaGreat
open Go.RowKit

/-- A row's own block, whole. -/
theorem Own.open {α : Type} [Enc α] {w : World} {B : Nat} {e : TypeId} {g n cap : Nat} {xs : List α} (h : Own w B e (.slice (some ⟨g, 0, none⟩) n cap) xs) :
    ∃ cur : Array Value, w.heap[g]? = some (.cells cur e (0, 0)) ∧ n = xs.length ∧ n ≤ cap ∧ cap ≤ maxLen ∧ B ≤ g ∧ cur.size = cap * Enc.sz α ∧ cur.toList.take (n * Enc.sz α) = flat xs := by
  rcases h.2 with ⟨h0, _⟩ | ⟨g', cap', cur, h0, hb, hg, hn, hm, hs, ht⟩
  · cases h0
  · injection h0 with h1 h2 h3
    injection h1 with h1
    injection h1 with h1
    subst h1 h2 h3
    exact ⟨cur, hg, rfl, hn, hm, hb, hs, ht⟩
theorem Own.mk' {α : Type} [Enc α] {w : World} {B : Nat} {e : TypeId} {g cap : Nat} {xs : List α} {cur : Array Value} (hg : w.heap[g]? = some (.cells cur e (0, 0))) (hn : xs.length ≤ cap) (hm : cap ≤ maxLen) (hb : B ≤ g)
    (hs : cur.size = cap * Enc.sz α) (ht : cur.toList.take (xs.length * Enc.sz α) = flat xs) : Own w B e (.slice (some ⟨g, 0, none⟩) xs.length cap) xs :=
  ⟨flat_length xs, .inr ⟨g, cap, cur, rfl, hb, hg, hn, hm, hs, ht⟩⟩
theorem flat_take {α : Type} [Enc α] (xs : List α) (i : Nat) : (flat xs).take (i * Enc.sz α) = flat (xs.take i) := by
  induction xs generalizing i with
  | nil => simp [flat]
  | cons x xs ih =>
    have h : flat (x :: xs) = Enc.enc x ++ flat xs := rfl
    have hl := Enc.len x
    cases i with
    | zero => simp [flat]
    | succ i =>
      have h2 : flat ((x :: xs).take (i + 1)) = Enc.enc x ++ flat (xs.take i) := rfl
      rw [h, h2, List.take_append, hl, Nat.add_mul, Nat.one_mul, Nat.add_sub_cancel, ih, List.take_of_length_le (by rw [hl]; omega)]
theorem flat_drop {α : Type} [Enc α] (xs : List α) (i : Nat) : (flat xs).drop (i * Enc.sz α) = flat (xs.drop i) := by
  induction xs generalizing i with
  | nil => simp [flat]
  | cons x xs ih =>
    have h : flat (x :: xs) = Enc.enc x ++ flat xs := rfl
    have hl := Enc.len x
    cases i with
    | zero => simp
    | succ i =>
      rw [h, List.drop_append, hl, Nat.add_mul, Nat.one_mul, Nat.add_sub_cancel, List.drop_of_length_le (by rw [hl]; omega)]
      simpa using ih i
/-- A shorter front of the same row. -/
theorem Own.front {α : Type} [Enc α] {w : World} {B : Nat} {e : TypeId} {g n cap : Nat} {xs : List α} (h : Own w B e (.slice (some ⟨g, 0, none⟩) n cap) xs) (i : Nat) (hi : i ≤ n) : Own w B e (.slice (some ⟨g, 0, none⟩) i cap) (xs.take i) := by
  obtain ⟨cur, hg, hl, hn, hm, hb, hs, ht⟩ := h.open
  have hli : (xs.take i).length = i := by rw [List.length_take]; omega
  have := Own.mk' (xs := xs.take i) hg (by omega) hm hb hs (by
    rw [hli, ← flat_take, ← ht, List.take_take, Nat.min_eq_left (Nat.mul_le_mul_right _ hi)])
  rwa [hli] at this
theorem Own.fits {α : Type} [Enc α] {P : Program} {W : World} {base : Nat} {t ty e : TypeId} {z : Value} {bytes : Nat} (ht : P.underlying t = some (.slice e)) (hinfo : (P.info? e).map (fun i => (i.zero, i.size, i.bytes)) = some (some z, Enc.sz α, bytes))
    {g k cap : Nat} {xs ys : List α} (HO : Own W base e (.slice (some ⟨g, 0, none⟩) k cap) xs) (ad : Addr) (m c : Nat) (hm : ys.length = m) (HR : ∀ j u, (flat ys)[j]? = some u → W.cell? (ad.add j) = some u) (hroom : k + m ≤ cap) :
    ∃ w1, (Builtin.append_ #[t, t] ty #[.slice (some ⟨g, 0, none⟩) k cap, .slice (some ad) m c]).run P W = .ok (.slice (some ⟨g, 0, none⟩) (k + m) cap) w1 ∧ Own w1 base e (.slice (some ⟨g, 0, none⟩) (k + m) cap) (xs ++ ys) ∧ W.grownBy w1 (some g) := by
  obtain ⟨i0, hi, hzz⟩ := Option.map_eq_some_iff.1 hinfo
  simp only [Prod.mk.injEq] at hzz
  obtain ⟨hz0, hz1, hz2⟩ := hzz
  obtain ⟨cur, hg, hl, hn, hmx, hb, hs, htk⟩ := HO.open
  subst hl hm
  obtain ⟨w1, h1, h2, h3⟩ := run_append_fits (P := P) W base t ty e i0 (Enc.sz α) ht hi hz1 g xs.length cap (flat xs) HO ad ys.length c (flat ys) (flat_length ys) HR (flat_one ys) hroom
  refine ⟨w1, h1, ?_, h3⟩
  show w1.ownsRow base e _ _ (xs ++ ys).length (flat (xs ++ ys))
  rw [List.length_append, flat_append]
  exact h2
/-- clear of the one element behind the row's own. -/
theorem Own.clear {α : Type} [Enc α] {P : Program} {W : World} {base : Nat} {t ty e : TypeId} {z : Value} (ht : P.underlying t = some (.slice e)) (hz : ∀ w, (zeroValue e).run P w = .ok z w) (hzs : z.cells.size = Enc.sz α) (hz1 : ∀ v ∈ z.cells.toList, v.oneCell' = true)
    {g k cap : Nat} {xs : List α} (HO : Own W base e (.slice (some ⟨g, 0, none⟩) k cap) xs) (c m : Nat) (hm1 : m = 1) (hroom : k + 1 ≤ cap) :
    ∃ w1, (Builtin.clear_ #[t] ty #[.slice (some ⟨g, k * Enc.sz α, none⟩) m c]).run P W = .ok (.tuple #[]) w1 ∧ Own w1 base e (.slice (some ⟨g, 0, none⟩) k cap) xs ∧ W.grownBy w1 (some g) := by
  subst hm1
  obtain ⟨cur, hg, hl, hn, hm, hb, hs, htk⟩ := HO.open
  have hzl : (Builtin.zeroCells z.cells 1).toList = z.cells.toList := by
    have h1 : (Builtin.zeroCells z.cells 1).toList.length = z.cells.toList.length := by simp [Builtin.zeroCells]
    refine List.ext_getElem h1 fun i h2 h3 => ?_
    simp only [Array.length_toList] at h3
    simp [Builtin.zeroCells, Nat.mod_eq_of_lt h3, h3]
  have hle : k * Enc.sz α + Enc.sz α ≤ cap * Enc.sz α := by
    rw [← Nat.succ_mul]; exact Nat.mul_le_mul_right _ hroom
  have hrun := run_storeCells_at (P := P) g (k * Enc.sz α) e z.cells.toList 0 cur W hg (by simp; omega) hz1
  have hlt : g < W.heap.size := (Array.getElem?_eq_some_iff.1 hg).1
  refine ⟨W.setRow g (cur.toList.take (k * Enc.sz α + 0) ++ z.cells.toList ++ cur.toList.drop (k * Enc.sz α + 0 + z.cells.toList.length)).toArray, ?_, ?_, ⟨rfl, rfl, rfl, by simp, fun j _ hne => setRow_other _ _ _ _ (by rintro rfl; exact hne rfl)⟩⟩
  · simp [Builtin.clear_, run_underlying ht, hz, hzl, hrun]
  · subst hl
    refine Own.mk' (setRow_heap _ _ _ _ _ _ hg) hn hm hb ?_ ?_
    · simp; omega
    · simp only [List.append_assoc, Nat.add_zero]
      rw [List.take_append, List.take_take, Nat.min_self, htk, flat_length, Nat.sub_self]
      simp

-- BEGIN LINK
theorem zeroC (w : World) : (zeroValue 96).run Tryz.prog w = .ok (.agg #[.int .i64 0, .int .i64 0]) w := by kernel_rfl

set_option maxHeartbeats 1000000 in
set_option maxRecDepth 100000 in
theorem DeleteC_any (g i cap B : Nat) (xs : List Lk) (w : World) (hi : i < xs.length) (HO : Own w B 96 (.slice (some ⟨g, 0, none⟩) xs.length cap) xs) :
    Calls Tryz.prog 123 #[.slice (some ⟨g, 0, none⟩) xs.length cap, .int .i64 i, .int .i64 ((i : Int) + 1)] w fun e w' =>
      e = .returned (.slice (some ⟨g, 0, none⟩) (xs.length - 1) cap) ∧ Own w' B 96 (.slice (some ⟨g, 0, none⟩) (xs.length - 1) cap) (xs.eraseIdx i) ∧ w.grownBy w' (some g) := by
  obtain ⟨cur, hg, -, hn, hm, hb, hs, htk⟩ := HO.open
  simp only [maxLen] at hm
  have HF := HO.front i (by omega)
  have HR : Rd w (some ⟨g, 0, none⟩) xs := by
    obtain ⟨A, c, e, _, h⟩ := HO.slice
    cases e
    exact h
  obtain ⟨ad, had, hsrc⟩ : ∃ ad : Addr, (if cap = i + 1 then (some ⟨g, 0, none⟩ : Option Addr) else some ⟨g, (i + 1) * 2, none⟩) = some ad ∧ ∀ j u, (flat (xs.drop (i + 1)))[j]? = some u → w.cell? (ad.add j) = some u := by
    by_cases h : cap = i + 1
    · refine ⟨⟨g, 0, none⟩, by simp [h], fun j u hj => ?_⟩
      have : xs.drop (i + 1) = [] := List.drop_of_length_le (by omega)
      rw [this] at hj
      simp [flat] at hj
    · refine ⟨⟨g, (i + 1) * 2, none⟩, by simp [h], fun j u hj => ?_⟩
      rw [← flat_drop, List.getElem?_drop] at hj
      have := HR.cells' _ _ hj
      rw [Nat.zero_add] at this
      rw [show (⟨g, (i + 1) * 2, none⟩ : Addr).add j = ⟨g, (i + 1) * 2 + j, none⟩ by unfold Addr.add; split <;> simp_all]
      exact this
  obtain ⟨w1, hr1, HO1, hg1⟩ := Own.fits (P := Tryz.prog) (W := w.drew) (t := 23) (ty := 23) Tryz.underlying23 infoC HF.drew ad (xs.length - (i + 1)) (cap - (i + 1)) (by simp) hsrc (by omega)
  have hlen : i + (xs.length - (i + 1)) = xs.length - 1 := by omega
  rw [hlen] at hr1 HO1
  obtain ⟨w2, hr2, HO2, hg2⟩ := Own.clear (P := Tryz.prog) (t := 23) (ty := 0) Tryz.underlying23 zeroC rfl (by decide) HO1 (cap - (xs.length - 1)) (xs.length - (xs.length - 1)) (by omega) (by omega)
  have HE : xs.take i ++ xs.drop (i + 1) = xs.eraseIdx i := (List.eraseIdx_eq_take_drop_succ xs i).symm
  rw [HE] at HO2
  have q1 : (0 : Int) ≤ (i : Int) := by omega
  have q2 : (i : Int) ≤ (cap : Int) := by omega
  have q3 : (0 : Int) ≤ (i : Int) + 1 := by omega
  have q4 : (i : Int) + 1 ≤ (xs.length : Int) := by omega
  have q5 : ((i : Int) + 1).toNat = i + 1 := by omega
  have q6 : ((i : Int) == (i : Int) + 1) = false := by rw [beq_eq_false_iff_ne]; omega
  have q7 : (xs.length : Int) ≤ (cap : Int) := by omega
  have HL := Lib.hid hlen
  have HA := Lib.hid had
  have HR2 := Lib.hid hr2
  clear HE hlen hs htk hg had hr2 hsrc
  go_enter Tryz.func123, Tryz.ntmps123
  go_wp2
  refine wp_still_tail 6 (by kernel_rfl) (by kernel_rfl) ?_
  simp only [List.take_succ_cons, List.take_zero, List.drop_succ_cons, List.drop_zero]
  repeat still_step
  refine wpStill_nil ?_
  rw [HA.out]
  have q8 : (0 : Int) ≤ ((xs.length - 1 : Nat) : Int) := by omega
  have q9 : ((xs.length - 1 : Nat) : Int) ≤ (xs.length : Int) := by omega
  refine wpList_run_append rfl (.tmp 22) (.tmp 25) 23 23 rfl _ _ rfl rfl hr1 ?_
  clear hr1
  go_wp2_with (refine wpList_run_clear rfl (.tmp 31) 23 rfl _ rfl HR2.out ?_)
  go_ret
  have hgd : w.grownBy w1 (some g) := ⟨hg1.os, hg1.tape, hg1.output, hg1.size, hg1.block⟩
  exact ⟨rfl, HO2, hgd.trans hg2⟩

set_option maxHeartbeats 1000000 in
set_option maxRecDepth 100000 in
theorem withoutC_any (g i cap B : Nat) (xs : List Lk) (x : Lk) (w : World) (hx : xs[i]? = some x) (HO : Own w B 96 (.slice (some ⟨g, 0, none⟩) xs.length cap) xs) :
    Calls Tryz.prog 112 #[.slice (some ⟨g, 0, none⟩) xs.length cap, .int .i64 i] w fun e w' =>
      e = .returned (.tuple #[.slice (some ⟨g, 0, none⟩) (xs.length - 1) cap, .agg #[.int .i64 x.a, .int .i64 x.b]]) ∧ Own w' B 96 (.slice (some ⟨g, 0, none⟩) (xs.length - 1) cap) (xs.eraseIdx i) ∧ w.grownBy w' (some g) := by
  obtain ⟨hi, hxe⟩ := List.getElem?_eq_some_iff.1 hx
  have HX := Lib.hid hx
  clear hx hxe
  have HR : Rd w (some ⟨g, 0, none⟩) xs := by
    obtain ⟨A, c, e, _, h⟩ := HO.slice
    cases e
    exact h
  obtain ⟨b, off, y, e, hy, c0, c1⟩ := HR.lk i hi
  cases e
  obtain rfl : y = x := Option.some.inj (hy.out.symm.trans HX.out)
  have hlt : g < w.heap.size := (HO.lt g rfl).2
  have hmx : xs.length ≤ 9223372036854775807 := by
    obtain ⟨cur, hg, -, hn, hm, hb, hs, htk⟩ := HO.open
    simp only [maxLen] at hm
    omega
  clear hy HX HR
  simp only [Nat.zero_add] at c0 c1
  have q1 : IntKind.i64.wrap ((i : Int) + 1) = (i : Int) + 1 := IntWalk.i64_in _ (by omega)
  go_enter Tryz.func112, Tryz.ntmps112
  go_wp2
  refine wp_mix [(0, true), (1, true), (2, true), (3, true), (5, true), (4, false), (6, true)] 7
    (fun w' => w'.cell? ⟨w.heap.size + 1, 0, none⟩ = some (.int .i64 y.a) ∧ w'.cell? ⟨w.heap.size + 1, 1, none⟩ = some (.int .i64 y.b))
    (by kernel_rfl) (by kernel_rfl) (by kernel_rfl) (by kernel_rfl) (by kernel_rfl) (fun d _ _ _ _ h => by cases d <;> exact h) (by go_simp) ?_
  simp only [pick, List.map_cons, List.map_nil, List.getD_cons_zero, List.getD_cons_succ, List.drop_succ_cons, List.drop_zero]
  iterate 5
    apply mix_take
    case hw => rfl
    case hy => intro W hW; obtain ⟨e0, e1⟩ := hW; go_simp; try rfl
    simp only [Act.put, List.setIfInBounds_toArray, List.set_cons_zero, List.set_cons_succ]
  refine mix_do fun K' hK' => ?_
  go_wp2_with fail
  refine (DeleteC_any g i cap B xs _ hi ((HO.alloc _).alloc _).drew).mono ?_
  rintro e w1 ⟨rfl, HO1, hg1⟩
  go_wp2
  obtain ⟨gc, gf⟩ := gcell hg1
  have n0 : ¬ w.heap.size = g := by omega
  have n1 : ¬ w.heap.size + 1 = g := by omega
  refine hK' _ _ (by go_simp) ?_
  clear hK' K'
  apply mix_take
  case hw => rfl
  case hy => intro W hW; obtain ⟨e0, e1⟩ := hW; go_simp; try rfl
  simp only [Act.put, List.setIfInBounds_toArray, List.set_cons_zero, List.set_cons_succ]
  refine mix_nil ?_
  go_wp2
  have b0 := bl_grown (bl_drew (bl_alloc (bl_new w (.cells #[.int .i64 0, .int .i64 0] 96)) (.cells #[.int .i64 y.a, .int .i64 y.b] 96))) hg1 (by simpa using n0)
  have b1 := bl_set (bl_set b0 0 (.int .i64 y.a)) 1 (.int .i64 y.b)
  have r0 := bl_cell b1 0
  have r1 := bl_cell b1 1
  simp at r0 r1
  refine bodyPost_ret (v := .tuple #[.slice (some ⟨g, 0, none⟩) (xs.length - 1) cap, .agg #[.int .i64 y.a, .int .i64 y.b]]) (by simp [results, Tryz.results112, go_sem, r0, r1]) rfl ⟨rfl, ?_, ?_⟩
  · exact (HO1.setCell (by simp [Value.ownBlock]; omega) _).setCell (by simp [Value.ownBlock]; omega) _
  · exact grown_setCell (grown_setCell (grown_of_alloc (grown_of_alloc (grown_of_drew hg1))) (Nat.le_refl _) _) (Nat.le_refl _) _
-- END LINK
-- BEGIN TURNED
theorem zeroW (w : World) : (zeroValue 33).run Tryz.prog w = .ok (.agg #[.int .i64 0, .int .i64 0, .int .i64 0, .int .i64 0, .string ⟨#[]⟩]) w := by kernel_rfl

set_option maxHeartbeats 1000000 in
set_option maxRecDepth 100000 in
theorem DeleteW_any (g i cap B : Nat) (xs : List Lt) (w : World) (hi : i < xs.length) (HO : Own w B 33 (.slice (some ⟨g, 0, none⟩) xs.length cap) xs) :
    Calls Tryz.prog 111 #[.slice (some ⟨g, 0, none⟩) xs.length cap, .int .i64 i, .int .i64 ((i : Int) + 1)] w fun e w' =>
      e = .returned (.slice (some ⟨g, 0, none⟩) (xs.length - 1) cap) ∧ Own w' B 33 (.slice (some ⟨g, 0, none⟩) (xs.length - 1) cap) (xs.eraseIdx i) ∧ w.grownBy w' (some g) := by
  obtain ⟨cur, hg, -, hn, hm, hb, hs, htk⟩ := HO.open
  simp only [maxLen] at hm
  have HF := HO.front i (by omega)
  have HR : Rd w (some ⟨g, 0, none⟩) xs := by
    obtain ⟨A, c, e, _, h⟩ := HO.slice
    cases e
    exact h
  obtain ⟨ad, had, hsrc⟩ : ∃ ad : Addr, (if cap = i + 1 then (some ⟨g, 0, none⟩ : Option Addr) else some ⟨g, (i + 1) * 5, none⟩) = some ad ∧ ∀ j u, (flat (xs.drop (i + 1)))[j]? = some u → w.cell? (ad.add j) = some u := by
    by_cases h : cap = i + 1
    · refine ⟨⟨g, 0, none⟩, by simp [h], fun j u hj => ?_⟩
      have : xs.drop (i + 1) = [] := List.drop_of_length_le (by omega)
      rw [this] at hj
      simp [flat] at hj
    · refine ⟨⟨g, (i + 1) * 5, none⟩, by simp [h], fun j u hj => ?_⟩
      rw [← flat_drop, List.getElem?_drop] at hj
      have := HR.cells' _ _ hj
      rw [Nat.zero_add] at this
      rw [show (⟨g, (i + 1) * 5, none⟩ : Addr).add j = ⟨g, (i + 1) * 5 + j, none⟩ by unfold Addr.add; split <;> simp_all]
      exact this
  obtain ⟨w1, hr1, HO1, hg1⟩ := Own.fits (P := Tryz.prog) (W := w.drew) (t := 22) (ty := 22) Tryz.underlying22 infoW HF.drew ad (xs.length - (i + 1)) (cap - (i + 1)) (by simp) hsrc (by omega)
  have hlen : i + (xs.length - (i + 1)) = xs.length - 1 := by omega
  rw [hlen] at hr1 HO1
  obtain ⟨w2, hr2, HO2, hg2⟩ := Own.clear (P := Tryz.prog) (t := 22) (ty := 0) Tryz.underlying22 zeroW rfl (by decide) HO1 (cap - (xs.length - 1)) (xs.length - (xs.length - 1)) (by omega) (by omega)
  have HE : xs.take i ++ xs.drop (i + 1) = xs.eraseIdx i := (List.eraseIdx_eq_take_drop_succ xs i).symm
  rw [HE] at HO2
  have q1 : (0 : Int) ≤ (i : Int) := by omega
  have q2 : (i : Int) ≤ (cap : Int) := by omega
  have q3 : (0 : Int) ≤ (i : Int) + 1 := by omega
  have q4 : (i : Int) + 1 ≤ (xs.length : Int) := by omega
  have q5 : ((i : Int) + 1).toNat = i + 1 := by omega
  have q6 : ((i : Int) == (i : Int) + 1) = false := by rw [beq_eq_false_iff_ne]; omega
  have q7 : (xs.length : Int) ≤ (cap : Int) := by omega
  have HL := Lib.hid hlen
  have HA := Lib.hid had
  have HR2 := Lib.hid hr2
  clear HE hlen hs htk hg had hr2 hsrc
  go_enter Tryz.func111, Tryz.ntmps111
  go_wp2
  refine wp_still_tail 6 (by kernel_rfl) (by kernel_rfl) ?_
  simp only [List.take_succ_cons, List.take_zero, List.drop_succ_cons, List.drop_zero]
  repeat still_step
  refine wpStill_nil ?_
  rw [HA.out]
  have q8 : (0 : Int) ≤ ((xs.length - 1 : Nat) : Int) := by omega
  have q9 : ((xs.length - 1 : Nat) : Int) ≤ (xs.length : Int) := by omega
  refine wpList_run_append rfl (.tmp 22) (.tmp 25) 22 22 rfl _ _ rfl rfl hr1 ?_
  clear hr1
  go_wp2_with (refine wpList_run_clear rfl (.tmp 31) 22 rfl _ rfl HR2.out ?_)
  go_ret
  have hgd : w.grownBy w1 (some g) := ⟨hg1.os, hg1.tape, hg1.output, hg1.size, hg1.block⟩
  exact ⟨rfl, HO2, hgd.trans hg2⟩

set_option maxHeartbeats 1000000 in
set_option maxRecDepth 100000 in
theorem withoutW_any (g i cap B : Nat) (xs : List Lt) (x : Lt) (w : World) (hx : xs[i]? = some x) (HO : Own w B 33 (.slice (some ⟨g, 0, none⟩) xs.length cap) xs) :
    Calls Tryz.prog 76 #[.slice (some ⟨g, 0, none⟩) xs.length cap, .int .i64 i] w fun e w' =>
      e = .returned (.tuple #[.slice (some ⟨g, 0, none⟩) (xs.length - 1) cap, .agg #[.int .i64 x.id, .int .i64 x.fr, .int .i64 x.to, .int .i64 x.rd, .string x.data]]) ∧ Own w' B 33 (.slice (some ⟨g, 0, none⟩) (xs.length - 1) cap) (xs.eraseIdx i) ∧ w.grownBy w' (some g) := by
  obtain ⟨hi, hxe⟩ := List.getElem?_eq_some_iff.1 hx
  have HX := Lib.hid hx
  clear hx hxe
  have HR : Rd w (some ⟨g, 0, none⟩) xs := by
    obtain ⟨A, c, e, _, h⟩ := HO.slice
    cases e
    exact h
  obtain ⟨b, off, y, e, hy, c0, c1, c2, c3, c4⟩ := HR.lt i hi
  cases e
  obtain rfl : y = x := Option.some.inj (hy.out.symm.trans HX.out)
  have hlt : g < w.heap.size := (HO.lt g rfl).2
  have hmx : xs.length ≤ 9223372036854775807 := by
    obtain ⟨cur, hg, -, hn, hm, hb, hs, htk⟩ := HO.open
    simp only [maxLen] at hm
    omega
  clear hy HX HR
  simp only [Nat.zero_add] at c0 c1 c2 c3 c4
  have q1 : IntKind.i64.wrap ((i : Int) + 1) = (i : Int) + 1 := IntWalk.i64_in _ (by omega)
  go_enter Tryz.func76, Tryz.ntmps76
  go_wp2
  refine wp_mix [(0, true), (1, true), (2, true), (3, true), (5, true), (4, false), (6, true)] 7
    (fun w' => w'.cell? ⟨w.heap.size + 1, 0, none⟩ = some (.int .i64 y.id) ∧ w'.cell? ⟨w.heap.size + 1, 1, none⟩ = some (.int .i64 y.fr) ∧ w'.cell? ⟨w.heap.size + 1, 2, none⟩ = some (.int .i64 y.to) ∧ w'.cell? ⟨w.heap.size + 1, 3, none⟩ = some (.int .i64 y.rd) ∧ w'.cell? ⟨w.heap.size + 1, 4, none⟩ = some (.string y.data))
    (by kernel_rfl) (by kernel_rfl) (by kernel_rfl) (by kernel_rfl) (by kernel_rfl) (fun d _ _ _ _ h => by cases d <;> exact h) (by go_simp) ?_
  simp only [pick, List.map_cons, List.map_nil, List.getD_cons_zero, List.getD_cons_succ, List.drop_succ_cons, List.drop_zero]
  iterate 5
    apply mix_take
    case hw => rfl
    case hy => intro W hW; obtain ⟨e0, e1, e2, e3, e4⟩ := hW; go_simp; try rfl
    simp only [Act.put, List.setIfInBounds_toArray, List.set_cons_zero, List.set_cons_succ]
  refine mix_do fun K' hK' => ?_
  go_wp2_with fail
  refine (DeleteW_any g i cap B xs _ hi ((HO.alloc _).alloc _).drew).mono ?_
  rintro e w1 ⟨rfl, HO1, hg1⟩
  go_wp2
  obtain ⟨gc, gf⟩ := gcell hg1
  have n0 : ¬ w.heap.size = g := by omega
  have n1 : ¬ w.heap.size + 1 = g := by omega
  refine hK' _ _ (by go_simp) ?_
  clear hK' K'
  apply mix_take
  case hw => rfl
  case hy => intro W hW; obtain ⟨e0, e1, e2, e3, e4⟩ := hW; go_simp; try rfl
  simp only [Act.put, List.setIfInBounds_toArray, List.set_cons_zero, List.set_cons_succ]
  refine mix_nil ?_
  go_wp2
  have b0 := bl_grown (bl_drew (bl_alloc (bl_new w (.cells #[.int .i64 0, .int .i64 0, .int .i64 0, .int .i64 0, .string ⟨#[]⟩] 33)) (.cells #[.int .i64 y.id, .int .i64 y.fr, .int .i64 y.to, .int .i64 y.rd, .string y.data] 33))) hg1 (by simpa using n0)
  have b1 := bl_set (bl_set (bl_set (bl_set (bl_set b0 0 (.int .i64 y.id)) 1 (.int .i64 y.fr)) 2 (.int .i64 y.to)) 3 (.int .i64 y.rd)) 4 (.string y.data)
  have r0 := bl_cell b1 0
  have r1 := bl_cell b1 1
  have r2 := bl_cell b1 2
  have r3 := bl_cell b1 3
  have r4 := bl_cell b1 4
  simp at r0 r1 r2 r3 r4
  refine bodyPost_ret (v := .tuple #[.slice (some ⟨g, 0, none⟩) (xs.length - 1) cap, .agg #[.int .i64 y.id, .int .i64 y.fr, .int .i64 y.to, .int .i64 y.rd, .string y.data]]) (by simp [results, Tryz.results76, go_sem, r0, r1, r2, r3, r4]) rfl ⟨rfl, ?_, ?_⟩
  · exact (((((HO1.setCell (by simp [Value.ownBlock]; omega) _).setCell (by simp [Value.ownBlock]; omega) _).setCell (by simp [Value.ownBlock]; omega) _).setCell (by simp [Value.ownBlock]; omega) _).setCell (by simp [Value.ownBlock]; omega) _)
  · exact (grown_setCell (grown_setCell (grown_setCell (grown_setCell (grown_setCell (grown_of_alloc (grown_of_alloc (grown_of_drew hg1))) (Nat.le_refl _) _) (Nat.le_refl _) _) (Nat.le_refl _) _) (Nat.le_refl _) _) (Nat.le_refl _) _)
theorem zeroT (w : World) : (zeroValue 86).run Tryz.prog w = .ok (.agg #[.int .i64 0, .int .i64 0, .int .i64 0]) w := by kernel_rfl

set_option maxHeartbeats 1000000 in
set_option maxRecDepth 100000 in
theorem DeleteT_any (g i cap B : Nat) (xs : List Tm) (w : World) (hi : i < xs.length) (HO : Own w B 86 (.slice (some ⟨g, 0, none⟩) xs.length cap) xs) :
    Calls Tryz.prog 114 #[.slice (some ⟨g, 0, none⟩) xs.length cap, .int .i64 i, .int .i64 ((i : Int) + 1)] w fun e w' =>
      e = .returned (.slice (some ⟨g, 0, none⟩) (xs.length - 1) cap) ∧ Own w' B 86 (.slice (some ⟨g, 0, none⟩) (xs.length - 1) cap) (xs.eraseIdx i) ∧ w.grownBy w' (some g) := by
  obtain ⟨cur, hg, -, hn, hm, hb, hs, htk⟩ := HO.open
  simp only [maxLen] at hm
  have HF := HO.front i (by omega)
  have HR : Rd w (some ⟨g, 0, none⟩) xs := by
    obtain ⟨A, c, e, _, h⟩ := HO.slice
    cases e
    exact h
  obtain ⟨ad, had, hsrc⟩ : ∃ ad : Addr, (if cap = i + 1 then (some ⟨g, 0, none⟩ : Option Addr) else some ⟨g, (i + 1) * 3, none⟩) = some ad ∧ ∀ j u, (flat (xs.drop (i + 1)))[j]? = some u → w.cell? (ad.add j) = some u := by
    by_cases h : cap = i + 1
    · refine ⟨⟨g, 0, none⟩, by simp [h], fun j u hj => ?_⟩
      have : xs.drop (i + 1) = [] := List.drop_of_length_le (by omega)
      rw [this] at hj
      simp [flat] at hj
    · refine ⟨⟨g, (i + 1) * 3, none⟩, by simp [h], fun j u hj => ?_⟩
      rw [← flat_drop, List.getElem?_drop] at hj
      have := HR.cells' _ _ hj
      rw [Nat.zero_add] at this
      rw [show (⟨g, (i + 1) * 3, none⟩ : Addr).add j = ⟨g, (i + 1) * 3 + j, none⟩ by unfold Addr.add; split <;> simp_all]
      exact this
  obtain ⟨w1, hr1, HO1, hg1⟩ := Own.fits (P := Tryz.prog) (W := w.drew) (t := 24) (ty := 24) Tryz.underlying24 infoT HF.drew ad (xs.length - (i + 1)) (cap - (i + 1)) (by simp) hsrc (by omega)
  have hlen : i + (xs.length - (i + 1)) = xs.length - 1 := by omega
  rw [hlen] at hr1 HO1
  obtain ⟨w2, hr2, HO2, hg2⟩ := Own.clear (P := Tryz.prog) (t := 24) (ty := 0) Tryz.underlying24 zeroT rfl (by decide) HO1 (cap - (xs.length - 1)) (xs.length - (xs.length - 1)) (by omega) (by omega)
  have HE : xs.take i ++ xs.drop (i + 1) = xs.eraseIdx i := (List.eraseIdx_eq_take_drop_succ xs i).symm
  rw [HE] at HO2
  have q1 : (0 : Int) ≤ (i : Int) := by omega
  have q2 : (i : Int) ≤ (cap : Int) := by omega
  have q3 : (0 : Int) ≤ (i : Int) + 1 := by omega
  have q4 : (i : Int) + 1 ≤ (xs.length : Int) := by omega
  have q5 : ((i : Int) + 1).toNat = i + 1 := by omega
  have q6 : ((i : Int) == (i : Int) + 1) = false := by rw [beq_eq_false_iff_ne]; omega
  have q7 : (xs.length : Int) ≤ (cap : Int) := by omega
  have HL := Lib.hid hlen
  have HA := Lib.hid had
  have HR2 := Lib.hid hr2
  clear HE hlen hs htk hg had hr2 hsrc
  go_enter Tryz.func114, Tryz.ntmps114
  go_wp2
  refine wp_still_tail 6 (by kernel_rfl) (by kernel_rfl) ?_
  simp only [List.take_succ_cons, List.take_zero, List.drop_succ_cons, List.drop_zero]
  repeat still_step
  refine wpStill_nil ?_
  rw [HA.out]
  have q8 : (0 : Int) ≤ ((xs.length - 1 : Nat) : Int) := by omega
  have q9 : ((xs.length - 1 : Nat) : Int) ≤ (xs.length : Int) := by omega
  refine wpList_run_append rfl (.tmp 22) (.tmp 25) 24 24 rfl _ _ rfl rfl hr1 ?_
  clear hr1
  go_wp2_with (refine wpList_run_clear rfl (.tmp 31) 24 rfl _ rfl HR2.out ?_)
  go_ret
  have hgd : w.grownBy w1 (some g) := ⟨hg1.os, hg1.tape, hg1.output, hg1.size, hg1.block⟩
  exact ⟨rfl, HO2, hgd.trans hg2⟩

set_option maxHeartbeats 1000000 in
set_option maxRecDepth 100000 in
theorem withoutT_any (g i cap B : Nat) (xs : List Tm) (x : Tm) (w : World) (hx : xs[i]? = some x) (HO : Own w B 86 (.slice (some ⟨g, 0, none⟩) xs.length cap) xs) :
    Calls Tryz.prog 96 #[.slice (some ⟨g, 0, none⟩) xs.length cap, .int .i64 i] w fun e w' =>
      e = .returned (.tuple #[.slice (some ⟨g, 0, none⟩) (xs.length - 1) cap, .agg #[.int .i64 x.t, .int .i64 x.node, .int .i64 x.tag]]) ∧ Own w' B 86 (.slice (some ⟨g, 0, none⟩) (xs.length - 1) cap) (xs.eraseIdx i) ∧ w.grownBy w' (some g) := by
  obtain ⟨hi, hxe⟩ := List.getElem?_eq_some_iff.1 hx
  have HX := Lib.hid hx
  clear hx hxe
  have HR : Rd w (some ⟨g, 0, none⟩) xs := by
    obtain ⟨A, c, e, _, h⟩ := HO.slice
    cases e
    exact h
  obtain ⟨b, off, y, e, hy, c0, c1, c2⟩ := HR.tm i hi
  cases e
  obtain rfl : y = x := Option.some.inj (hy.out.symm.trans HX.out)
  have hlt : g < w.heap.size := (HO.lt g rfl).2
  have hmx : xs.length ≤ 9223372036854775807 := by
    obtain ⟨cur, hg, -, hn, hm, hb, hs, htk⟩ := HO.open
    simp only [maxLen] at hm
    omega
  clear hy HX HR
  simp only [Nat.zero_add] at c0 c1 c2
  have q1 : IntKind.i64.wrap ((i : Int) + 1) = (i : Int) + 1 := IntWalk.i64_in _ (by omega)
  go_enter Tryz.func96, Tryz.ntmps96
  go_wp2
  refine wp_mix [(0, true), (1, true), (2, true), (3, true), (5, true), (4, false), (6, true)] 7
    (fun w' => w'.cell? ⟨w.heap.size + 1, 0, none⟩ = some (.int .i64 y.t) ∧ w'.cell? ⟨w.heap.size + 1, 1, none⟩ = some (.int .i64 y.node) ∧ w'.cell? ⟨w.heap.size + 1, 2, none⟩ = some (.int .i64 y.tag))
    (by kernel_rfl) (by kernel_rfl) (by kernel_rfl) (by kernel_rfl) (by kernel_rfl) (fun d _ _ _ _ h => by cases d <;> exact h) (by go_simp) ?_
  simp only [pick, List.map_cons, List.map_nil, List.getD_cons_zero, List.getD_cons_succ, List.drop_succ_cons, List.drop_zero]
  iterate 5
    apply mix_take
    case hw => rfl
    case hy => intro W hW; obtain ⟨e0, e1, e2⟩ := hW; go_simp; try rfl
    simp only [Act.put, List.setIfInBounds_toArray, List.set_cons_zero, List.set_cons_succ]
  refine mix_do fun K' hK' => ?_
  go_wp2_with fail
  refine (DeleteT_any g i cap B xs _ hi ((HO.alloc _).alloc _).drew).mono ?_
  rintro e w1 ⟨rfl, HO1, hg1⟩
  go_wp2
  obtain ⟨gc, gf⟩ := gcell hg1
  have n0 : ¬ w.heap.size = g := by omega
  have n1 : ¬ w.heap.size + 1 = g := by omega
  refine hK' _ _ (by go_simp) ?_
  clear hK' K'
  apply mix_take
  case hw => rfl
  case hy => intro W hW; obtain ⟨e0, e1, e2⟩ := hW; go_simp; try rfl
  simp only [Act.put, List.setIfInBounds_toArray, List.set_cons_zero, List.set_cons_succ]
  refine mix_nil ?_
  go_wp2
  have b0 := bl_grown (bl_drew (bl_alloc (bl_new w (.cells #[.int .i64 0, .int .i64 0, .int .i64 0] 86)) (.cells #[.int .i64 y.t, .int .i64 y.node, .int .i64 y.tag] 86))) hg1 (by simpa using n0)
  have b1 := bl_set (bl_set (bl_set b0 0 (.int .i64 y.t)) 1 (.int .i64 y.node)) 2 (.int .i64 y.tag)
  have r0 := bl_cell b1 0
  have r1 := bl_cell b1 1
  have r2 := bl_cell b1 2
  simp at r0 r1 r2
  refine bodyPost_ret (v := .tuple #[.slice (some ⟨g, 0, none⟩) (xs.length - 1) cap, .agg #[.int .i64 y.t, .int .i64 y.node, .int .i64 y.tag]]) (by simp [results, Tryz.results96, go_sem, r0, r1, r2]) rfl ⟨rfl, ?_, ?_⟩
  · exact (((HO1.setCell (by simp [Value.ownBlock]; omega) _).setCell (by simp [Value.ownBlock]; omega) _).setCell (by simp [Value.ownBlock]; omega) _)
  · exact (grown_setCell (grown_setCell (grown_setCell (grown_of_alloc (grown_of_alloc (grown_of_drew hg1))) (Nat.le_refl _) _) (Nat.le_refl _) _) (Nat.le_refl _) _)
end Go.Proofs.YthlbmcfliejdiaaGreat
end

section
set_option linter.unusedVariables false
set_option linter.unusedSimpArgs false
namespace Go.Proofs.YthlbmcfliejdiaaGreat
open Go.RowKit

theorem bl_all5 {w : World} {g : Nat} {t : TypeId} {fr : Nat × Nat} {c0 c1 c2 c3 c4 : Value} (h : w.heap[g]? = some (.cells #[c0, c1, c2, c3, c4] t fr)) (a0 a1 a2 a3 a4 : Value) :
    (((((w.setCell ⟨g, 0, none⟩ a0).setCell ⟨g, 1, none⟩ a1).setCell ⟨g, 2, none⟩ a2).setCell ⟨g, 3, none⟩ a3).setCell ⟨g, 4, none⟩ a4).heap[g]? = some (.cells #[a0, a1, a2, a3, a4] t fr) := by simpa using bl_set (bl_set (bl_set (bl_set (bl_set h 0 a0) 1 a1) 2 a2) 3 a3) 4 a4
theorem bl_all6 {w : World} {g : Nat} {t : TypeId} {fr : Nat × Nat} {c0 c1 c2 c3 c4 c5 : Value} (h : w.heap[g]? = some (.cells #[c0, c1, c2, c3, c4, c5] t fr)) (a0 a1 a2 a3 a4 a5 : Value) :
    ((((((w.setCell ⟨g, 0, none⟩ a0).setCell ⟨g, 1, none⟩ a1).setCell ⟨g, 2, none⟩ a2).setCell ⟨g, 3, none⟩ a3).setCell ⟨g, 4, none⟩ a4).setCell ⟨g, 5, none⟩ a5).heap[g]? = some (.cells #[a0, a1, a2, a3, a4, a5] t fr) := by simpa using bl_set (bl_set (bl_set (bl_set (bl_set (bl_set h 0 a0) 1 a1) 2 a2) 3 a3) 4 a4) 5 a5
/-- A new block of one element's cells. -/
theorem Rd.new {α : Type} [Enc α] (w : World) (e : TypeId) (x : α) (cs : Array Value) (h : cs.toList = Enc.enc x) : Rd (w.alloc (.cells cs e)) (some ⟨w.heap.size, 0, none⟩) [x] := by
  refine Rd.of_cells fun j u hj => ?_
  rw [flat_sing, ← h] at hj
  rw [bl_cell (bl_new w (.cells cs e)), Nat.zero_add]
  simpa using hj

theorem Rd.drew {α : Type} [Enc α] {w : World} {A : Option Addr} {xs : List α} (h : Rd w A xs) : Rd w.drew A xs := h

/-! Results that lie in memory. -/
section
variable {P : Program} {fn : Func} {R : Ending → World → Prop} {a : Act} {w : World} {p p' u v : Tmp} {ty ty' : TypeId}
theorem ret_c (h : fn.results = #[.cell p ty]) (g : Nat) (t : TypeId) (cs : Array Value) (d : TypeDesc) (hp : a.tmps.getD p undef = .pointer (some ⟨g, 0, none⟩)) (hg : w.heap[g]? = some (.cells cs t (0, 0)))
    (hu : P.underlying ty = some d) (hd : (match d with | .struct _ | .array _ _ => true | _ => false) = true) (hi : (P.info? ty).map (·.size) = some cs.size) (hdf : a.defers = []) (hR : R (.returned (.agg cs)) w) : bodyPost P fn R .ret a w :=
  bodyPost_ret (v := .agg cs) (by
    have hp' : a.tmps[p]?.getD undef = .pointer (some ⟨g, 0, none⟩) := by simpa using hp
    simp [results, h, hp', asAddr, run_loadVar_row w g t ty cs (0, 0) d hg hu hd hi]) hdf hR
theorem ret_ct (h : fn.results = #[.cell p ty, .tmp u]) (g : Nat) (t : TypeId) (cs : Array Value) (d : TypeDesc) (hp : a.tmps.getD p undef = .pointer (some ⟨g, 0, none⟩)) (hg : w.heap[g]? = some (.cells cs t (0, 0)))
    (hu : P.underlying ty = some d) (hd : (match d with | .struct _ | .array _ _ => true | _ => false) = true) (hi : (P.info? ty).map (·.size) = some cs.size) (hdf : a.defers = []) (hR : R (.returned (.tuple #[.agg cs, a.tmps.getD u undef])) w) : bodyPost P fn R .ret a w :=
  bodyPost_ret (v := .tuple #[.agg cs, a.tmps.getD u undef]) (by
    have hp' : a.tmps[p]?.getD undef = .pointer (some ⟨g, 0, none⟩) := by simpa using hp
    simp [results, h, hp', asAddr, run_loadVar_row w g t ty cs (0, 0) d hg hu hd hi]) hdf hR
theorem ret_ctt (h : fn.results = #[.cell p ty, .tmp u, .tmp v]) (g : Nat) (t : TypeId) (cs : Array Value) (d : TypeDesc) (hp : a.tmps.getD p undef = .pointer (some ⟨g, 0, none⟩)) (hg : w.heap[g]? = some (.cells cs t (0, 0)))
    (hu : P.underlying ty = some d) (hd : (match d with | .struct _ | .array _ _ => true | _ => false) = true) (hi : (P.info? ty).map (·.size) = some cs.size) (hdf : a.defers = []) (hR : R (.returned (.tuple #[.agg cs, a.tmps.getD u undef, a.tmps.getD v undef])) w) : bodyPost P fn R .ret a w :=
  bodyPost_ret (v := .tuple #[.agg cs, a.tmps.getD u undef, a.tmps.getD v undef]) (by
    have hp' : a.tmps[p]?.getD undef = .pointer (some ⟨g, 0, none⟩) := by simpa using hp
    simp [results, h, hp', asAddr, run_loadVar_row w g t ty cs (0, 0) d hg hu hd hi]) hdf hR
theorem ret_cct (h : fn.results = #[.cell p ty, .cell p' ty', .tmp u]) (g g' : Nat) (t t' : TypeId) (cs cs' : Array Value) (d d' : TypeDesc) (hp : a.tmps.getD p undef = .pointer (some ⟨g, 0, none⟩)) (hg : w.heap[g]? = some (.cells cs t (0, 0)))
    (hu : P.underlying ty = some d) (hd : (match d with | .struct _ | .array _ _ => true | _ => false) = true) (hi : (P.info? ty).map (·.size) = some cs.size)
    (hp' : a.tmps.getD p' undef = .pointer (some ⟨g', 0, none⟩)) (hg' : w.heap[g']? = some (.cells cs' t' (0, 0)))
    (hu' : P.underlying ty' = some d') (hd' : (match d' with | .struct _ | .array _ _ => true | _ => false) = true) (hi' : (P.info? ty').map (·.size) = some cs'.size) (hdf : a.defers = []) (hR : R (.returned (.tuple #[.agg cs, .agg cs', a.tmps.getD u undef])) w) : bodyPost P fn R .ret a w :=
  bodyPost_ret (v := .tuple #[.agg cs, .agg cs', a.tmps.getD u undef]) (by
    have h1 : a.tmps[p]?.getD undef = .pointer (some ⟨g, 0, none⟩) := by simpa using hp
    have h2 : a.tmps[p']?.getD undef = .pointer (some ⟨g', 0, none⟩) := by simpa using hp'
    simp [results, h, h1, h2, asAddr, run_loadVar_row w g t ty cs (0, 0) d hg hu hd hi, run_loadVar_row w g' t' ty' cs' (0, 0) d' hg' hu' hd' hi']) hdf hR
end
theorem sizeNet : (Tryz.prog.info? 26).map (·.size) = some 6 := by kernel_rfl
theorem sizeLt : (Tryz.prog.info? 33).map (·.size) = some 5 := by kernel_rfl
theorem sizeLk : (Tryz.prog.info? 96).map (·.size) = some 2 := by kernel_rfl
/-- A network that is changed, at block g: its cells; its lists lie in rows of its own, from block B on. -/
def St (w : World) (B g : Nat) (x : Nt) : Prop :=
  ∃ vW vC vT, w.heap[g]? = some (.cells #[.int .i64 x.nodes, .int .i64 x.now, .int .i64 x.next, vW, vC, vT] 109 (0, 0)) ∧ B ≤ g ∧
    Own w B 33 vW x.way ∧ Own w B 96 vC x.cuts ∧ Own w B 86 vT x.timers

set_option maxHeartbeats 4000000 in
set_option maxRecDepth 100000 in
theorem changing_ok (x : Nt) (AW AC AT : Option Addr) (cW cC cT : Nat) (w : World) (hlw : x.way.length * 48 ≤ 140737488355328) (hlc : x.cuts.length * 16 ≤ 140737488355328) (hlt : x.timers.length * 24 ≤ 140737488355328)
    (hW : Rd w AW x.way) (hC : Rd w AC x.cuts) (hT : Rd w AT x.timers) (hx : checkB x = true) :
    Calls Tryz.prog 36 #[.agg #[.int .i64 x.nodes, .int .i64 x.now, .int .i64 x.next, .slice AW x.way.length cW, .slice AC x.cuts.length cC, .slice AT x.timers.length cT]] w
    fun e w' => ∃ g, e = .returned (.tuple #[.pointer (some ⟨g, 0, none⟩), .int .i64 0]) ∧ St w' w.heap.size g x ∧ Below w.heap.size w w' := by
  have h0 : (0 : Int) = chkE x := chkE_ok hx
  have H0 := Lib.hid h0
  clear h0
  go_enter Tryz.func36, Tryz.ntmps36
  go_wp2_with fail
  refine calls_below (Check_any x AW AC AT cW cC cT _ (by omega) (by omega) (by omega) (hW.below (below_alloc (Below.refl _ _) _)) (hC.below (below_alloc (Below.refl _ _) _)) (hT.below (below_alloc (Below.refl _ _) _))) ?_
  intro w1 hb1
  rw [← H0.out]
  have hB1 : Below w.heap.size w w1 := below_trans (below_alloc (Below.refl _ _) _) hb1
  have hs1 : w.heap.size < w1.heap.size := by have := hb1.size; simp at this; omega
  obtain ⟨kc, kf⟩ := bcell hb1
  have k0 : w1.cell? ⟨w.heap.size, 0, none⟩ = some (.int .i64 x.nodes) := by go_simp
  have k1 : w1.cell? ⟨w.heap.size, 1, none⟩ = some (.int .i64 x.now) := by go_simp
  have k2 : w1.cell? ⟨w.heap.size, 2, none⟩ = some (.int .i64 x.next) := by go_simp
  have k3 : w1.cell? ⟨w.heap.size, 3, none⟩ = some (.slice AW x.way.length cW) := by go_simp
  have k4 : w1.cell? ⟨w.heap.size, 4, none⟩ = some (.slice AC x.cuts.length cC) := by go_simp
  have k5 : w1.cell? ⟨w.heap.size, 5, none⟩ = some (.slice AT x.timers.length cT) := by go_simp
  have f3 : w1.frozen? ⟨w.heap.size, 3, none⟩ = false := by go_simp
  have f4 : w1.frozen? ⟨w.heap.size, 4, none⟩ = false := by go_simp
  have f5 : w1.frozen? ⟨w.heap.size, 5, none⟩ = false := by go_simp
  clear kc kf
  go_wp2_with fail
  refine wp_mix [(0, true), (1, true), (3, true), (4, true), (6, true), (7, true), (2, false), (9, true), (5, false), (8, false)] 10
    (fun w' => w'.cell? ⟨w.heap.size, 3, none⟩ = some (.slice AW x.way.length cW) ∧ w'.cell? ⟨w.heap.size, 4, none⟩ = some (.slice AC x.cuts.length cC) ∧ w'.cell? ⟨w.heap.size, 5, none⟩ = some (.slice AT x.timers.length cT))
    (by kernel_rfl) (by kernel_rfl) (by kernel_rfl) (by kernel_rfl) (by kernel_rfl) (fun d _ _ _ _ h => by cases d <;> exact h) ⟨k3, k4, k5⟩ ?_
  simp only [pick, List.map_cons, List.map_nil, List.getD_cons_zero, List.getD_cons_succ, List.drop_succ_cons, List.drop_zero]
  iterate 6
    apply mix_take
    case hw => rfl
    case hy => intro W hW; obtain ⟨e3, e4, e5⟩ := hW; go_simp; try rfl
    simp only [Act.put, List.setIfInBounds_toArray, List.set_cons_zero, List.set_cons_succ]
  refine mix_do fun K' hK' => ?_
  go_wp2_with fail
  refine (CloneW_any AW cW x.way _ hlw (hW.below hB1.drew)).mono ?_
  rintro e w2 ⟨vW, rfl, oW, hb2⟩
  obtain ⟨A2, c2, rfl, -, -⟩ := oW.slice
  have hs2 : w.heap.size < w2.heap.size := Nat.lt_of_lt_of_le hs1 hb2.size
  have k32 := cell_below hb2 k3
  have k42 := cell_below hb2 k4
  have k52 := cell_below hb2 k5
  go_wp2
  refine hK' _ _ ⟨k32, k42, k52⟩ ?_
  clear hK' K'
  apply mix_take
  case hw => rfl
  case hy => intro W hW; obtain ⟨e3, e4, e5⟩ := hW; go_simp; try rfl
  simp only [Act.put, List.setIfInBounds_toArray, List.set_cons_zero, List.set_cons_succ]
  refine mix_do fun K' hK' => ?_
  go_wp2_with fail
  refine (CloneC_any AC cC x.cuts _ hlc (hC.below (below_trans hB1.drew hb2))).mono ?_
  rintro e w3 ⟨vC, rfl, oC, hb3⟩
  obtain ⟨A3, c3, rfl, -, -⟩ := oC.slice
  have hs3 : w.heap.size < w3.heap.size := Nat.lt_of_lt_of_le hs2 hb3.size
  have k33 := cell_below hb3 k32
  have k43 := cell_below hb3 k42
  have k53 := cell_below hb3 k52
  go_wp2
  refine hK' _ _ ⟨k33, k43, k53⟩ ?_
  clear hK' K'
  refine mix_do fun K' hK' => ?_
  go_wp2_with fail
  refine (CloneT_any AT cT x.timers _ hlt (hT.below (below_trans (below_trans hB1.drew hb2) hb3))).mono ?_
  rintro e w4 ⟨vT, rfl, oT, hb4⟩
  obtain ⟨A4, c4, rfl, -, -⟩ := oT.slice
  have hs4 : w.heap.size < w4.heap.size := Nat.lt_of_lt_of_le hs3 hb4.size
  have hall : Below w1.heap.size w1 w4 := below_trans (below_trans (below_trans (Below.refl _ _).drew hb2) hb3) hb4
  have m0 := cell_below hall k0
  have m1 := cell_below hall k1
  have m2 := cell_below hall k2
  have m3 := cell_below hall k3
  have m4 := cell_below hall k4
  have m5 := cell_below hall k5
  have g3 := (hall.frozen (p := ⟨w.heap.size, 3, none⟩) hs1).trans f3
  have g4 := (hall.frozen (p := ⟨w.heap.size, 4, none⟩) hs1).trans f4
  have g5 := (hall.frozen (p := ⟨w.heap.size, 5, none⟩) hs1).trans f5
  go_wp2
  refine hK' _ _ ⟨m3, m4, m5⟩ (mix_nil ?_)
  clear hK' K'
  go_wp2
  go_ret2
  have hw1 : w1.drew.heap.size = w1.heap.size := rfl
  have q2 : w1.heap.size ≤ w2.heap.size := hb2.size
  have q3 : w2.heap.size ≤ w3.heap.size := hb3.size
  have q4 : w3.heap.size ≤ w4.heap.size := hb4.size
  refine ⟨w4.heap.size, rfl, ⟨_, _, _, by simpa using heap_alloc_new (((w4.setCell ⟨w.heap.size, 3, none⟩ (.slice A2 x.way.length c2)).setCell ⟨w.heap.size, 4, none⟩ (.slice A3 x.cuts.length c3)).setCell ⟨w.heap.size, 5, none⟩ (.slice A4 x.timers.length c4)) _, by omega, ?_, ?_, ?_⟩, ?_⟩
  · exact ((((((oW.below hb3).below hb4).far (by show w.heap.size < _; omega) _).far (by show w.heap.size < _; omega) _).far (by show w.heap.size < _; omega) _).alloc _).weaken (by show w.heap.size ≤ w1.heap.size; omega)
  · exact (((((oC.below hb4).far (by show w.heap.size < _; omega) _).far (by show w.heap.size < _; omega) _).far (by show w.heap.size < _; omega) _).alloc _).weaken (by omega)
  · exact ((((oT.far (by show w.heap.size < _; omega) _).far (by show w.heap.size < _; omega) _).far (by show w.heap.size < _; omega) _).alloc _).weaken (by omega)
  · exact below_alloc ((((below_trans hB1 hall).setCell (p := ⟨w.heap.size, 3, none⟩) (Nat.le_refl _) _).setCell (p := ⟨w.heap.size, 4, none⟩) (Nat.le_refl _) _).setCell (p := ⟨w.heap.size, 5, none⟩) (Nat.le_refl _) _) _

set_option maxHeartbeats 400000 in
set_option maxRecDepth 100000 in
theorem changing_bad (x : Nt) (AW AC AT : Option Addr) (cW cC cT : Nat) (w : World) (hlw : x.way.length * 48 ≤ 140737488355328) (hlc : x.cuts.length * 16 ≤ 140737488355328) (hlt : x.timers.length * 24 ≤ 140737488355328)
    (hW : Rd w AW x.way) (hC : Rd w AC x.cuts) (hT : Rd w AT x.timers) (hx : checkB x = false) :
    Calls Tryz.prog 36 #[.agg #[.int .i64 x.nodes, .int .i64 x.now, .int .i64 x.next, .slice AW x.way.length cW, .slice AC x.cuts.length cC, .slice AT x.timers.length cT]] w
    fun e w' => e = .returned (.tuple #[.pointer none, .int .i64 2]) ∧ Below w.heap.size w w' := by
  have h0 : (2 : Int) = chkE x := chkE_bad hx
  have H0 := Lib.hid h0
  clear h0
  go_enter Tryz.func36, Tryz.ntmps36
  go_wp2_with fail
  refine calls_below (Check_any x AW AC AT cW cC cT _ (by omega) (by omega) (by omega) (hW.below (below_alloc (Below.refl _ _) _)) (hC.below (below_alloc (Below.refl _ _) _)) (hT.below (below_alloc (Below.refl _ _) _))) ?_
  intro w1 hb1
  rw [← H0.out]
  go_wp2
  go_ret2
  exact ⟨rfl, below_trans (below_alloc (Below.refl _ _) _) hb1⟩
end Go.Proofs.YthlbmcfliejdiaaGreat
end
