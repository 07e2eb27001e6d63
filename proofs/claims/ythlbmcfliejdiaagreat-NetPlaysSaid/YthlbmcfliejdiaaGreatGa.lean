/- Words for the walks of this seat: regions that draw, returns, structs in slices. The contracts of cmp.isNaN, cmp.Compare, cmp.Or at int, and of the program's byNodes, order, isNode, isLetter, isTimer. The plain data of layer 19 and how it lies in memory: letters, links, timers, networks, acts, what is seen. The contracts of the program's isNode, isLetter, isTimer, rises at links and at timers. A map whose keys are structs of two ints and whose elements are true: look-up and store, at the program's two such map types. The contract of the program's Check. -/
import Derived.Test.YthlbmcfliejdiaaGreatProg
import Derived.WalkKit
import Derived.WalkLawsBesides
import Derived.WalkSpells
import Derived.Deep.QuietTactic
import Derived.BigQuiet
import Derived.Below
import Derived.StillTailTactics
import Derived.Outline
import Derived.Deep.DeepFit
import Derived.Lib.Hide
import Derived.Laws.StructEq
import Derived.OwnWalk
import Derived.Maps.OwnOps
section
set_option linter.unusedVariables false
set_option linter.unusedSimpArgs false
namespace Go.Proofs.YthlbmcfliejdiaaGreat
open Go.RowKit

theorem ret_int {k : IntKind} {a b : Int} (h : a = b) : Ending.returned (.int k a) = .returned (.int k b) := by rw [h]
theorem ret_bool {a b : Bool} (h : a = b) : Ending.returned (.bool a) = .returned (.bool b) := by rw [h]

/-- A region that draws its order: operations that only read, n of them, then a tail in one forced order. -/
theorem wp_still_tail {P : Program} {id : Nat} {Q : Exit → Act → World → Prop} {a : Act} {w : World} {l : List Oper} (n : Nat) (hm : P.follows .mixedOrders = true) (hB : Region.lexTailB .any l.toArray n = true)
    (h : wpStill P l.toArray w.drew (fun a' => wpList P l.toArray Q (l.drop n) a' w.drew) (l.take n) a) : (Code.region id l.toArray true).wp P Q a w :=
  wp_region_still_tail n hm hB h

theorem below_trans {w w1 w2 : World} (h : Below w.heap.size w w1) (k : Below w1.heap.size w1 w2) : Below w.heap.size w w2 := h.trans (k.mono h.size)
theorem below_alloc {w W : World} (h : Below w.heap.size w W) (o : Obj) : Below w.heap.size w (W.alloc o) := h.alloc h.size o
theorem cell_below {w w1 : World} (h : Below w.heap.size w w1) {a : Addr} {v : Value} (hc : w.cell? a = some v) : w1.cell? a = some v := (h.cell (World.block_lt_of_cell? w a hc)).trans hc
/-- All old cells read as before, none has been frozen: for the walk, as two rules. -/
theorem bcell {W w1 : World} (hb : Below W.heap.size W w1) : (∀ b o, b < W.heap.size → w1.cell? ⟨b, o, none⟩ = W.cell? ⟨b, o, none⟩) ∧ (∀ b o, b < W.heap.size → w1.frozen? ⟨b, o, none⟩ = W.frozen? ⟨b, o, none⟩) :=
  ⟨fun b o h => hb.cell (p := ⟨b, o, none⟩) h, fun b o h => hb.frozen (p := ⟨b, o, none⟩) h⟩
/-- A contract that gives one value and makes new blocks alone, met at a call. -/
theorem calls_below {P : Program} {f : FuncId} {args : Array Value} {w : World} {R : Ending → World → Prop} {v : Value} (h : Calls P f args w fun e w' => e = .returned v ∧ Below w.heap.size w w')
    (k : ∀ w', Below w.heap.size w w' → R (.returned v) w') : Calls P f args w R := h.mono fun _ w' ⟨he, hb⟩ => by rw [he]; exact k w' hb
/-! A block of cells, whole: behind a store into it, behind a store elsewhere, its cells. -/
theorem bl_set {w : World} {g : Nat} {t : TypeId} {cs : Array Value} {fr : Nat × Nat} (h : w.heap[g]? = some (.cells cs t fr)) (i : Nat) (u : Value) : (w.setCell ⟨g, i, none⟩ u).heap[g]? = some (.cells (cs.setIfInBounds i u) t fr) := by
  simp [World.setCell, Array.getElem?_modify, h]
theorem bl_far {w : World} {g : Nat} {o : Obj} (h : w.heap[g]? = some o) {p : Addr} (hp : g ≠ p.block) (u : Value) : (w.setCell p u).heap[g]? = some o := (Below.heap_setCell w p u g hp).trans h
theorem bl_lt {w : World} {g : Nat} {o : Obj} (h : w.heap[g]? = some o) : g < w.heap.size := (Array.getElem?_eq_some_iff.1 h).1
theorem bl_cell {w : World} {g : Nat} {t : TypeId} {cs : Array Value} {fr : Nat × Nat} (h : w.heap[g]? = some (.cells cs t fr)) (i : Nat) : w.cell? ⟨g, i, none⟩ = cs[i]? := by simp [World.cell?, h]
theorem bl_frozen {w : World} {g : Nat} {t : TypeId} {cs : Array Value} (h : w.heap[g]? = some (.cells cs t (0, 0))) (i : Nat) : w.frozen? ⟨g, i, none⟩ = false := by simp [World.frozen?, h]
theorem bl_new (w : World) (o : Obj) : (w.alloc o).heap[w.heap.size]? = some o := heap_alloc_new w o
theorem bl_alloc {w : World} {g : Nat} {o : Obj} (h : w.heap[g]? = some o) (o' : Obj) : (w.alloc o').heap[g]? = some o := (Below.heap_alloc w o' g (bl_lt h)).trans h
theorem bl_below {w w1 : World} {g : Nat} {o : Obj} (h : w.heap[g]? = some o) (hb : Below w.heap.size w w1) : w1.heap[g]? = some o := (hb.block g (bl_lt h)).trans h
theorem bl_grown {w w1 : World} {g : Nat} {o : Obj} {row : Option Nat} (h : w.heap[g]? = some o) (hg : w.grownBy w1 row) (hne : some g ≠ row) : w1.heap[g]? = some o := (hg.block g (bl_lt h) hne).trans h
end Go.Proofs.YthlbmcfliejdiaaGreat
end

section
set_option linter.unusedVariables false
set_option linter.unusedSimpArgs false
namespace Go.Proofs.YthlbmcfliejdiaaGreat
open Go.RowKit

def cmpF (a b : Int) : Int := if a < b then -1 else if b < a then 1 else 0
def orF : List Int → Int
  | [] => 0
  | x :: r => if x = 0 then orF r else x

theorem isNaN_any (a : Int) (w : World) : Calls Tryz.prog 124 #[.int .i64 a] w fun e w' => e = .returned (.bool false) ∧ w = w' := by
  go_enter Tryz.func124, Tryz.ntmps124
  go_wp2
  go_ret
  exact ⟨rfl, rfl⟩

set_option maxHeartbeats 400000 in
theorem Compare_any (a b : Int) (w : World) : Calls Tryz.prog 116 #[.int .i64 a, .int .i64 b] w fun e w' => e = .returned (.int .i64 (cmpF a b)) ∧ w = w' := by
  by_cases h1 : a < b
  · have hf : cmpF a b = -1 := by simp [cmpF, h1]
    rw [hf]
    go_enter Tryz.func116, Tryz.ntmps116
    go_wp2_with (go_at_call 124; refine (isNaN_any _ _).mono ?_; rintro e w' ⟨rfl, rfl⟩)
    go_ret
    exact ⟨rfl, rfl⟩
  · by_cases h2 : b < a
    · have hf : cmpF a b = 1 := by simp [cmpF, h1, h2]
      rw [hf]
      go_enter Tryz.func116, Tryz.ntmps116
      go_wp2_with (go_at_call 124; refine (isNaN_any _ _).mono ?_; rintro e w' ⟨rfl, rfl⟩)
      go_ret
      exact ⟨rfl, rfl⟩
    · have hf : cmpF a b = 0 := by simp [cmpF, h1, h2]
      rw [hf]
      go_enter Tryz.func116, Tryz.ntmps116
      go_wp2_with (go_at_call 124; refine (isNaN_any _ _).mono ?_; rintro e w' ⟨rfl, rfl⟩)
      go_ret
      exact ⟨rfl, rfl⟩

set_option maxHeartbeats 400000 in
theorem Or_any (b n c : Nat) (xs : List Int) (w : World) (hn : xs.length = n) (hs : n ≤ 100) (hc : ∀ j, j < n → w.cell? ⟨b, j, none⟩ = some (.int .i64 (xs.getD j 0))) :
    Calls Tryz.prog 115 #[.slice (some ⟨b, 0, none⟩) n c] w fun e w' => e = .returned (.int .i64 (orF xs)) ∧ w = w' := by
  have HN := Lib.hid hn
  clear hn
  go_enter Tryz.func115, Tryz.ntmps115
  go_wp2
  go_loop [8] (fun i => ∃ k : Nat, k ≤ n ∧ i = .int .i64 k ∧ orF xs = orF (xs.drop k)) (fun i => n - (intOf i).toNat)
  case atStart => exact ⟨0, Nat.zero_le _, rfl, rfl⟩
  case round =>
    obtain ⟨k, hk, rfl, ho⟩ := hrel
    have HO := Lib.hid ho
    clear ho
    by_cases hlt : k < n
    · have hd : xs.drop k = xs.getD k 0 :: xs.drop (k + 1) := by
        rw [List.drop_eq_getElem_cons (by rw [HN.out]; exact hlt)]
        simp [List.getD_eq_getElem?_getD, List.getElem?_eq_getElem (show k < xs.length by rw [HN.out]; exact hlt)]
      have HD := Lib.hid hd
      clear hd
      have hcell := hc k hlt
      clear hc
      generalize hx : xs.getD k 0 = x at *
      have HX := Lib.hid hx
      clear hx
      by_cases hz : x = 0
      · have hz2 : (x != 0) = false := by simp [hz]
        have HZ := Lib.hid hz
        clear hz
        go_wp2
        go_round
        case rel => exact ⟨k + 1, by omega, by go_num, by rw [HO.out, HD.out, orF, if_pos HZ.out]⟩
        case measure => simp [intOf]; omega
      · have hz2 : (x != 0) = true := by simp [hz]
        go_wp2
        go_ret
        exact ⟨ret_int (by rw [HO.out, HD.out, orF, if_neg hz]), rfl⟩
    · have : k = n := by omega
      subst this
      go_wp2
      go_ret
      exact ⟨ret_int (by rw [HO.out, List.drop_of_length_le (by rw [HN.out]; omega)]; rfl), rfl⟩

def linkCmp (a1 b1 a2 b2 : Int) : Int := orF [cmpF a1 a2, cmpF b1 b2]
def timerCmp (t1 n1 g1 t2 n2 g2 : Int) : Int := orF [cmpF t1 t2, cmpF n1 n2, cmpF g1 g2]

theorem Compare_still (a b : Int) (w : World) : Calls Tryz.prog 116 #[.int .i64 a, .int .i64 b] w fun e w' => e = .returned (.int .i64 (cmpF a b)) ∧ w' = w :=
  (Compare_any a b w).mono fun _ _ ⟨h, k⟩ => ⟨h, k.symm⟩

set_option maxHeartbeats 400000 in
set_option maxRecDepth 100000 in
theorem byNodes_any (a1 b1 a2 b2 : Int) (w : World) : Calls Tryz.prog 99 #[.agg #[.int .i64 a1, .int .i64 b1], .agg #[.int .i64 a2, .int .i64 b2]] w
    fun e w' => e = .returned (.int .i64 (linkCmp a1 b1 a2 b2)) ∧ Below w.heap.size w w' := by
  go_enter Tryz.func99, Tryz.ntmps99
  go_wp2
  refine wp_still_tail 10 (by kernel_rfl) (by kernel_rfl) ?_
  simp only [List.take_succ_cons, List.take_zero, List.drop_succ_cons, List.drop_zero]
  repeat still_step
  still_call (Compare_still _ _ _)
  repeat still_step
  still_call (Compare_still _ _ _)
  refine wpStill_nil ?_
  go_wp2_with fail
  refine (Or_any _ 2 _ [cmpF a1 a2, cmpF b1 b2] _ rfl (by omega) ?hc).mono ?_
  case hc =>
    intro j hj
    obtain rfl | rfl : j = 0 ∨ j = 1 := by omega
    · go_simp
    · go_simp
  rintro e w' ⟨rfl, rfl⟩
  go_wp2
  go_ret
  exact ⟨rfl, below_alloc (below_alloc (below_alloc (Below.refl _ _) _) _).drew _⟩

set_option maxHeartbeats 400000 in
set_option maxRecDepth 100000 in
theorem order_any (t1 n1 g1 t2 n2 g2 : Int) (w : World) : Calls Tryz.prog 104 #[.agg #[.int .i64 t1, .int .i64 n1, .int .i64 g1], .agg #[.int .i64 t2, .int .i64 n2, .int .i64 g2]] w
    fun e w' => e = .returned (.int .i64 (timerCmp t1 n1 g1 t2 n2 g2)) ∧ Below w.heap.size w w' := by
  go_enter Tryz.func104, Tryz.ntmps104
  go_wp2
  refine wp_still_tail 15 (by kernel_rfl) (by kernel_rfl) ?_
  simp only [List.take_succ_cons, List.take_zero, List.drop_succ_cons, List.drop_zero]
  repeat still_step
  still_call (Compare_still _ _ _)
  repeat still_step
  still_call (Compare_still _ _ _)
  repeat still_step
  still_call (Compare_still _ _ _)
  refine wpStill_nil ?_
  go_wp2_with fail
  refine (Or_any _ 3 _ [cmpF t1 t2, cmpF n1 n2, cmpF g1 g2] _ rfl (by omega) ?hc).mono ?_
  case hc =>
    intro j hj
    obtain rfl | rfl | rfl : j = 0 ∨ j = 1 ∨ j = 2 := by omega
    · go_simp
    · go_simp
    · go_simp
  rintro e w' ⟨rfl, rfl⟩
  go_wp2
  go_ret
  exact ⟨rfl, below_alloc (below_alloc (below_alloc (Below.refl _ _) _) _).drew _⟩
end Go.Proofs.YthlbmcfliejdiaaGreat
end

section
set_option linter.unusedVariables false
set_option linter.unusedSimpArgs false
namespace Go.Proofs.YthlbmcfliejdiaaGreat
open Go.RowKit

structure Lt where
  id : Int
  fr : Int
  to : Int
  rd : Int
  data : ByteArray
  deriving DecidableEq
structure Lk where
  a : Int
  b : Int
  deriving DecidableEq
structure Tm where
  t : Int
  node : Int
  tag : Int
  deriving DecidableEq
structure Nt where
  nodes : Int
  now : Int
  next : Int
  way : List Lt
  cuts : List Lk
  timers : List Tm
  deriving DecidableEq

/-- How a value lies in cells. -/
class Enc (α : Type) where
  sz : Nat
  enc : α → List Value
  len : ∀ x, (enc x).length = sz
  one : ∀ x, ∀ v ∈ enc x, v.oneCell' = true
instance : Enc Lt := ⟨5, fun x => [.int .i64 x.id, .int .i64 x.fr, .int .i64 x.to, .int .i64 x.rd, .string x.data], fun _ => rfl, by simp [Value.oneCell']⟩
instance : Enc Lk := ⟨2, fun x => [.int .i64 x.a, .int .i64 x.b], fun _ => rfl, by simp [Value.oneCell']⟩
instance : Enc Tm := ⟨3, fun x => [.int .i64 x.t, .int .i64 x.node, .int .i64 x.tag], fun _ => rfl, by simp [Value.oneCell']⟩
instance : Enc Int := ⟨1, fun x => [.int .i64 x], fun _ => rfl, by simp [Value.oneCell']⟩

def flat {α : Type} [Enc α] (xs : List α) : List Value := xs.flatMap Enc.enc

/-- A slice that begins at A holds xs: element by element. -/
def Rd {α : Type} [Enc α] (w : World) (A : Option Addr) (xs : List α) : Prop :=
  ∀ i (h : i < xs.length), ∃ b off, A = some ⟨b, off, none⟩ ∧ ∀ k v, (Enc.enc xs[i])[k]? = some v → w.cell? ⟨b, off + i * Enc.sz α + k, none⟩ = some v

theorem Rd.below {α : Type} [Enc α] {w w1 : World} {A : Option Addr} {xs : List α} (h : Rd w A xs) (hb : Below w.heap.size w w1) : Rd w1 A xs := by
  intro i hi
  obtain ⟨b, off, e, hc⟩ := h i hi
  exact ⟨b, off, e, fun k v hk => cell_below hb (hc k v hk)⟩
theorem Rd.nil {α : Type} [Enc α] (w : World) (A : Option Addr) : Rd w A ([] : List α) := fun i hi => absurd hi (by simp)
theorem drop_at {α : Type} {xs : List α} {k : Nat} {x : α} (h : Hid (xs[k]? = some x)) : xs.drop k = x :: xs.drop (k + 1) := by
  obtain ⟨hk, rfl⟩ := List.getElem?_eq_some_iff.1 h.out
  exact List.drop_eq_getElem_cons hk
theorem Rd.any {α : Type} [Enc α] {w : World} {A : Option Addr} {xs : List α} (h : Rd w A xs) (i : Nat) (hi : i < xs.length) :
    ∃ b off x, A = some ⟨b, off, none⟩ ∧ Hid (xs[i]? = some x) ∧ ∀ k v, (Enc.enc x)[k]? = some v → w.cell? ⟨b, off + i * Enc.sz α + k, none⟩ = some v := by
  obtain ⟨b, off, e, hc⟩ := h i hi
  exact ⟨b, off, xs[i], e, List.getElem?_eq_getElem hi, hc⟩
theorem Rd.lk {w : World} {A : Option Addr} {xs : List Lk} (h : Rd w A xs) (i : Nat) (hi : i < xs.length) :
    ∃ b off x, A = some ⟨b, off, none⟩ ∧ Hid (xs[i]? = some x) ∧ w.cell? ⟨b, off + i * 2, none⟩ = some (.int .i64 x.a) ∧ w.cell? ⟨b, off + i * 2 + 1, none⟩ = some (.int .i64 x.b) := by
  obtain ⟨b, off, x, e, hx, hc⟩ := h.any i hi
  exact ⟨b, off, x, e, hx, hc 0 _ rfl, hc 1 _ rfl⟩
theorem Rd.tm {w : World} {A : Option Addr} {xs : List Tm} (h : Rd w A xs) (i : Nat) (hi : i < xs.length) :
    ∃ b off x, A = some ⟨b, off, none⟩ ∧ Hid (xs[i]? = some x) ∧ w.cell? ⟨b, off + i * 3, none⟩ = some (.int .i64 x.t) ∧ w.cell? ⟨b, off + i * 3 + 1, none⟩ = some (.int .i64 x.node) ∧ w.cell? ⟨b, off + i * 3 + 2, none⟩ = some (.int .i64 x.tag) := by
  obtain ⟨b, off, x, e, hx, hc⟩ := h.any i hi
  exact ⟨b, off, x, e, hx, hc 0 _ rfl, hc 1 _ rfl, hc 2 _ rfl⟩
theorem Rd.lt {w : World} {A : Option Addr} {xs : List Lt} (h : Rd w A xs) (i : Nat) (hi : i < xs.length) :
    ∃ b off x, A = some ⟨b, off, none⟩ ∧ Hid (xs[i]? = some x) ∧ w.cell? ⟨b, off + i * 5, none⟩ = some (.int .i64 x.id) ∧ w.cell? ⟨b, off + i * 5 + 1, none⟩ = some (.int .i64 x.fr) ∧ w.cell? ⟨b, off + i * 5 + 2, none⟩ = some (.int .i64 x.to) ∧
      w.cell? ⟨b, off + i * 5 + 3, none⟩ = some (.int .i64 x.rd) ∧ w.cell? ⟨b, off + i * 5 + 4, none⟩ = some (.string x.data) := by
  obtain ⟨b, off, x, e, hx, hc⟩ := h.any i hi
  exact ⟨b, off, x, e, hx, hc 0 _ rfl, hc 1 _ rfl, hc 2 _ rfl, hc 3 _ rfl, hc 4 _ rfl⟩
end Go.Proofs.YthlbmcfliejdiaaGreat
end

section
set_option linter.unusedVariables false
set_option linter.unusedSimpArgs false
namespace Go.Proofs.YthlbmcfliejdiaaGreat
open Go.RowKit

def isNodeB (nodes n : Int) : Bool := decide (0 ≤ n) && decide (n < nodes)
def isLetterB (nodes next : Int) (l : Lt) : Bool :=
  isNodeB nodes l.fr && isNodeB nodes l.to && decide (l.fr ≠ l.to) && decide (0 ≤ l.id) && decide (l.id < next) && decide (0 ≤ l.rd) && decide (l.rd ≤ 1099511628776) && decide (l.data.size ≤ 500000)
def isTimerB (nodes now : Int) (t : Tm) : Bool :=
  isNodeB nodes t.node && decide (0 ≤ t.tag) && decide (t.tag ≤ 2147483647) && decide (now < t.t) && decide (t.t ≤ 1099511628776)

set_option maxHeartbeats 400000 in
theorem isNode_any (a0 a1 a2 n : Int) (A3 A4 A5 : Option Addr) (n3 c3 n4 c4 n5 c5 : Nat) (w : World) : Calls Tryz.prog 71 #[.agg #[.int .i64 a0, .int .i64 a1, .int .i64 a2, .slice A3 n3 c3, .slice A4 n4 c4, .slice A5 n5 c5], .int .i64 n] w
    fun e w' => e = .returned (.bool (isNodeB a0 n)) ∧ Below w.heap.size w w' := by
  by_cases h : 0 ≤ n
  · by_cases h2 : n < a0
    all_goals
      go_enter Tryz.func71, Tryz.ntmps71
      go_wp2
      go_ret
      exact ⟨ret_bool (by simp [isNodeB, *]), below_alloc (Below.refl _ _) _⟩
  · go_enter Tryz.func71, Tryz.ntmps71
    go_wp2
    go_ret
    exact ⟨ret_bool (by simp [isNodeB, *]; omega), below_alloc (Below.refl _ _) _⟩

set_option maxHeartbeats 1000000 in
theorem isLetter_any (a0 a1 a2 : Int) (A3 A4 A5 : Option Addr) (n3 c3 n4 c4 n5 c5 : Nat) (l : Lt) (w : World) :
    Calls Tryz.prog 108 #[.agg #[.int .i64 a0, .int .i64 a1, .int .i64 a2, .slice A3 n3 c3, .slice A4 n4 c4, .slice A5 n5 c5], .agg #[.int .i64 l.id, .int .i64 l.fr, .int .i64 l.to, .int .i64 l.rd, .string l.data]] w
    fun e w' => e = .returned (.bool (isLetterB a0 a2 l)) ∧ Below w.heap.size w w' := by
  go_enter Tryz.func108, Tryz.ntmps108
  go_wp2_with (go_at_call 71; refine calls_below (isNode_any _ _ _ _ _ _ _ _ _ _ _ _ _ _) ?_; intro w1 hb1; (first | (replace hb0 := below_trans hb0 hb1; clear hc hb1) | (have hb0 := hb1; clear hb1)); obtain ⟨hc, -⟩ := bcell hb0)
  all_goals
    go_ret
    exact ⟨ret_bool (by rw [Bool.eq_iff_iff]; simp [isLetterB, *] <;> omega), below_trans (below_alloc (below_alloc (Below.refl _ _) _) _) hb0⟩

set_option maxHeartbeats 1000000 in
theorem isTimer_any (a0 a1 a2 : Int) (A3 A4 A5 : Option Addr) (n3 c3 n4 c4 n5 c5 : Nat) (l : Tm) (w : World) :
    Calls Tryz.prog 109 #[.agg #[.int .i64 a0, .int .i64 a1, .int .i64 a2, .slice A3 n3 c3, .slice A4 n4 c4, .slice A5 n5 c5], .agg #[.int .i64 l.t, .int .i64 l.node, .int .i64 l.tag]] w
    fun e w' => e = .returned (.bool (isTimerB a0 a1 l)) ∧ Below w.heap.size w w' := by
  go_enter Tryz.func109, Tryz.ntmps109
  go_wp2_with (go_at_call 71; refine calls_below (isNode_any _ _ _ _ _ _ _ _ _ _ _ _ _ _) ?_; intro w1 hb1; (first | (replace hb0 := below_trans hb0 hb1; clear hc hb1) | (have hb0 := hb1; clear hb1)); obtain ⟨hc, -⟩ := bcell hb0)
  all_goals
    go_ret
    exact ⟨ret_bool (by rw [Bool.eq_iff_iff]; simp [isTimerB, *] <;> omega), below_trans (below_alloc (below_alloc (Below.refl _ _) _) _) hb0⟩
/-- Does a list rise strictly, by a comparison? -/
def risesF {α : Type} (cmp : α → α → Int) : List α → Bool
  | x :: y :: r => decide (cmp x y < 0) && risesF cmp (y :: r)
  | _ => true
def lkCmp (x y : Lk) : Int := linkCmp x.a x.b y.a y.b
def tmCmp (x y : Tm) : Int := timerCmp x.t x.node x.tag y.t y.node y.tag

set_option maxHeartbeats 1000000 in
set_option maxRecDepth 100000 in
theorem risesL_any (A : Option Addr) (c : Nat) (xs : List Lk) (w : World) (hl : xs.length ≤ 9223372036854775807) (hR : Rd w A xs) :
    Calls Tryz.prog 106 #[.slice A xs.length c, .func (.func 99) #[] #[]] w fun e w' => e = .returned (.bool (risesF lkCmp xs)) ∧ Below w.heap.size w w' := by
  go_enter Tryz.func106, Tryz.ntmps106
  go_wp2
  go_loopw [5] (fun i wr => ∃ k : Nat, (k < xs.length ∨ k = 0) ∧ i = .int .i64 ((k : Int) + 1) ∧ Hid (risesF lkCmp xs = risesF lkCmp (xs.drop k)) ∧ Below w.heap.size w wr) (fun i _ => xs.length - (intOf i).toNat)
  case atStart => exact ⟨0, .inr rfl, rfl, rfl, Below.refl _ _⟩
  case round =>
    obtain ⟨k, hk, rfl, ho, hB⟩ := hrel
    by_cases hlt : k + 1 < xs.length
    · obtain ⟨b, off, x, rfl, hx, h10, h11⟩ := (hR.below hB).lk k (by omega)
      obtain ⟨b', off', y, e, hy, h20, h21⟩ := (hR.below hB).lk (k + 1) hlt
      cases e
      have hw : IntKind.i64.wrap (k : Int) = k := IntWalk.i64_in _ (by omega)
      have h0 : (0 : Int) ≤ (k : Int) + 1 := by omega
      have h1 : ((k : Int) + 1).toNat = k + 1 := by omega
      have h2 : k < xs.length := by omega
      have hd : Hid (risesF lkCmp (xs.drop k) = (decide (lkCmp x y < 0) && risesF lkCmp (xs.drop (k + 1)))) := by
        show _ = _
        rw [drop_at hx, drop_at hy, risesF]
      go_wp2
      refine wp_still_tail 10 (by kernel_rfl) (by kernel_rfl) ?_
      simp only [List.take_succ_cons, List.take_zero, List.drop_succ_cons, List.drop_zero]
      repeat still_step
      refine wpStill_nil ?_
      go_wp2_with fail
      refine calls_below (byNodes_any _ _ _ _ _) ?_
      intro w1 hb1
      have hB1 : Below w.heap.size w w1 := below_trans hB.drew hb1
      by_cases hn : lkCmp x y < 0
      · have hn1 : linkCmp x.a x.b y.a y.b < 0 := hn
        go_wp2
        go_roundw
        case rel => exact ⟨k + 1, .inl hlt, by go_num, by show _ = _; rw [ho.out, hd.out]; simp [hn], hB1⟩
        case measure => simp [intOf]; omega
      · have hn1 : ¬ linkCmp x.a x.b y.a y.b < 0 := hn
        go_wp2
        go_ret
        exact ⟨ret_bool (by rw [ho.out, hd.out, decide_eq_false (by omega)]; rfl), hB1⟩
    · have hd : Hid (risesF lkCmp (xs.drop k) = true) := by
        show _ = _
        have : (xs.drop k).length ≤ 1 := by simp; omega
        match hm : xs.drop k, this with
        | [], _ => rfl
        | [_], _ => rfl
      go_wp2
      go_ret
      exact ⟨ret_bool (by rw [ho.out, hd.out]), hB⟩

set_option maxHeartbeats 1000000 in
set_option maxRecDepth 100000 in
theorem risesT_any (A : Option Addr) (c : Nat) (xs : List Tm) (w : World) (hl : xs.length ≤ 9223372036854775807) (hR : Rd w A xs) :
    Calls Tryz.prog 107 #[.slice A xs.length c, .func (.func 104) #[] #[]] w fun e w' => e = .returned (.bool (risesF tmCmp xs)) ∧ Below w.heap.size w w' := by
  go_enter Tryz.func107, Tryz.ntmps107
  go_wp2
  go_loopw [5] (fun i wr => ∃ k : Nat, (k < xs.length ∨ k = 0) ∧ i = .int .i64 ((k : Int) + 1) ∧ Hid (risesF tmCmp xs = risesF tmCmp (xs.drop k)) ∧ Below w.heap.size w wr) (fun i _ => xs.length - (intOf i).toNat)
  case atStart => exact ⟨0, .inr rfl, rfl, rfl, Below.refl _ _⟩
  case round =>
    obtain ⟨k, hk, rfl, ho, hB⟩ := hrel
    by_cases hlt : k + 1 < xs.length
    · obtain ⟨b, off, x, rfl, hx, h10, h11, h12⟩ := (hR.below hB).tm k (by omega)
      obtain ⟨b', off', y, e, hy, h20, h21, h22⟩ := (hR.below hB).tm (k + 1) hlt
      cases e
      have hw : IntKind.i64.wrap (k : Int) = k := IntWalk.i64_in _ (by omega)
      have h0 : (0 : Int) ≤ (k : Int) + 1 := by omega
      have h1 : ((k : Int) + 1).toNat = k + 1 := by omega
      have h2 : k < xs.length := by omega
      have hd : Hid (risesF tmCmp (xs.drop k) = (decide (tmCmp x y < 0) && risesF tmCmp (xs.drop (k + 1)))) := by
        show _ = _
        rw [drop_at hx, drop_at hy, risesF]
      go_wp2
      refine wp_still_tail 10 (by kernel_rfl) (by kernel_rfl) ?_
      simp only [List.take_succ_cons, List.take_zero, List.drop_succ_cons, List.drop_zero]
      repeat still_step
      refine wpStill_nil ?_
      go_wp2_with fail
      refine calls_below (order_any _ _ _ _ _ _ _) ?_
      intro w1 hb1
      have hB1 : Below w.heap.size w w1 := below_trans hB.drew hb1
      by_cases hn : tmCmp x y < 0
      · have hn1 : timerCmp x.t x.node x.tag y.t y.node y.tag < 0 := hn
        go_wp2
        go_roundw
        case rel => exact ⟨k + 1, .inl hlt, by go_num, by show _ = _; rw [ho.out, hd.out]; simp [hn], hB1⟩
        case measure => simp [intOf]; omega
      · have hn1 : ¬ timerCmp x.t x.node x.tag y.t y.node y.tag < 0 := hn
        go_wp2
        go_ret
        exact ⟨ret_bool (by rw [ho.out, hd.out, decide_eq_false (by omega)]; rfl), hB1⟩
    · have hd : Hid (risesF tmCmp (xs.drop k) = true) := by
        show _ = _
        have : (xs.drop k).length ≤ 1 := by simp; omega
        match hm : xs.drop k, this with
        | [], _ => rfl
        | [_], _ => rfl
      go_wp2
      go_ret
      exact ⟨ret_bool (by rw [ho.out, hd.out]), hB⟩
end Go.Proofs.YthlbmcfliejdiaaGreat
end

section
set_option linter.unusedVariables false
set_option linter.unusedSimpArgs false
namespace Go.Proofs.YthlbmcfliejdiaaGreat
open Go.RowKit Go.Instr

section
variable {P : Program} {d : Nat} {xs ys : Array Value} {f : Field} {fs : List Field} {a b : Value} {r s : Bool} {w : World}
theorem eqf_last (hn : (f.name == "_") = false) (ha : (part f.type xs f.offset).run P w = .ok a w) (hb : (part f.type ys f.offset).run P w = .ok b w) (he : (Op.equalIn d f.type a b).run P w = .ok r w) : (Op.eqFields d xs ys [f]).run P w = .ok r w := by
  have hn' : f.name ≠ "_" := by simpa using hn
  simp only [Op.eqFields, if_pos hn', Sem.run_bind, ha, hb, he, Result.andThen_ok]
  cases r <;> simp
theorem eqf_cons (hn : (f.name == "_") = false) (ha : (part f.type xs f.offset).run P w = .ok a w) (hb : (part f.type ys f.offset).run P w = .ok b w) (he : (Op.equalIn d f.type a b).run P w = .ok r w) (hr : (Op.eqFields d xs ys fs).run P w = .ok s w) : (Op.eqFields d xs ys (f :: fs)).run P w = .ok (r && s) w := by
  have hn' : f.name ≠ "_" := by simpa using hn
  rw [Op.eqFields]
  simp only [if_pos hn', Sem.run_bind, ha, hb, he, Result.andThen_ok]
  cases r
  · simp
  · simpa using hr
theorem eqA_of {t : TypeId} {fs : Array Field} (hu : P.underlying t = some (.struct fs)) (hp : P.stoodInHeld t = false) (h : (Op.eqFields d xs ys fs.toList).run P w = .ok r w) : (Op.equalIn (d + 1) t (.agg xs) (.agg ys)).run P w = .ok r w := by
  have hf : P.fieldsOf t = fs := by simp [Program.fieldsOf, hu]
  rw [run_equalIn_struct (P := P) w d t xs ys (by rw [hf]; exact hu) hp, hf]
  exact h
end

theorem eqOwner (d : Nat) (w : World) (x0 y0 x1 y1 : Int) : (Op.equalIn (d + 2) 155 (.agg #[.int .i64 x0, .int .i64 x1]) (.agg #[.int .i64 y0, .int .i64 y1])).run Tryz.prog w = .ok (x0 == y0 && x1 == y1) w := by
  refine eqA_of Tryz.underlying155 (by kernel_rfl) ?_
  refine eqf_cons (by rfl) (by go_simp; rfl) (by go_simp; rfl) (by go_simp) ?_
  exact eqf_last (by rfl) (by go_simp; rfl) (by go_simp; rfl) (by go_simp)
theorem eqLink (d : Nat) (w : World) (x0 y0 x1 y1 : Int) : (Op.equalIn (d + 2) 96 (.agg #[.int .i64 x0, .int .i64 x1]) (.agg #[.int .i64 y0, .int .i64 y1])).run Tryz.prog w = .ok (x0 == y0 && x1 == y1) w := by
  refine eqA_of Tryz.underlying96 (by kernel_rfl) ?_
  refine eqf_cons (by rfl) (by go_simp; rfl) (by go_simp; rfl) (by go_simp) ?_
  exact eqf_last (by rfl) (by go_simp; rfl) (by go_simp; rfl) (by go_simp)

def pairV (p : Int × Int) : Value := .agg #[.int .i64 p.1, .int .i64 p.2]
def setEs (es : Array MapEntry) (ks : List (Int × Int)) : Prop := es.toList.map (fun e => (e.key, e.val)) = ks.map (fun p => (pairV p, Value.bool true))
/-- Block b is a map that holds just these pairs. -/
def IsSet (w : World) (b : Nat) (ks : List (Int × Int)) : Prop := ∃ es clock, w.heap[b]? = some (.map es clock) ∧ setEs es ks

theorem findAsking_run {P : Program} {T : TypeId} (hq : ∀ (w : World) (x0 y0 x1 y1 : Int), (Op.equal T (.agg #[.int .i64 x0, .int .i64 x1]) (.agg #[.int .i64 y0, .int .i64 y1])).run P w = .ok (x0 == y0 && x1 == y1) w) (w : World) (p : Int × Int) :
    ∀ (es : List MapEntry) (ks : List (Int × Int)) (i : Nat), es.map (fun e => (e.key, e.val)) = ks.map (fun p => (pairV p, Value.bool true)) →
      ∃ r, (findAsking T (pairV p) es i).run P w = .ok r w ∧ (p ∈ ks → ∃ j, r = some (j, .bool true)) ∧ (p ∉ ks → r = none)
  | [], ks, i, h => by
    have hk : ks = [] := by simpa using h.symm
    subst hk
    exact ⟨none, by simp [findAsking], by simp, fun _ => rfl⟩
  | e :: es, [], i, h => by simp at h
  | e :: es, k :: ks, i, h => by
    simp only [List.map_cons, List.cons.injEq, Prod.mk.injEq] at h
    obtain ⟨⟨hk, hv⟩, ht⟩ := h
    obtain ⟨r, hr, h1, h2⟩ := findAsking_run hq w p es ks (i + 1) ht
    have he := hq w p.1 k.1 p.2 k.2
    by_cases hpk : p = k
    · subst hpk
      refine ⟨some (i, .bool true), ?_, fun _ => ⟨i, rfl⟩, fun hn => absurd (List.mem_cons_self ..) hn⟩
      simp only [findAsking, hk, pairV, Sem.run_bind, he, Result.andThen_ok, hv]
      simp
    · have hb : (p.1 == k.1 && p.2 == k.2) = false := by
        rw [Bool.eq_false_iff]
        intro hc
        simp only [Bool.and_eq_true, beq_iff_eq] at hc
        exact hpk (Prod.ext hc.1 hc.2)
      refine ⟨r, ?_, fun hm => h1 (by rcases List.mem_cons.1 hm with rfl | hm; exact absurd rfl hpk; exact hm), fun hn => h2 (fun hm => hn (List.mem_cons_of_mem _ hm))⟩
      simp only [findAsking, hk, pairV, Sem.run_bind, he, Result.andThen_ok, hb]
      simpa [pairV] using hr

theorem findKey_run {P : Program} {T : TypeId} {fs : Array Field} (hu : P.underlying T = some (.struct fs)) (hq : ∀ (w : World) (x0 y0 x1 y1 : Int), (Op.equal T (.agg #[.int .i64 x0, .int .i64 x1]) (.agg #[.int .i64 y0, .int .i64 y1])).run P w = .ok (x0 == y0 && x1 == y1) w) (w : World) (p : Int × Int)
    (es : List MapEntry) (ks : List (Int × Int)) (h : es.map (fun e => (e.key, e.val)) = ks.map (fun p => (pairV p, Value.bool true))) :
      ∃ r, (findKey T (pairV p) es).run P w = .ok r w ∧ (p ∈ ks → ∃ j, r = some (j, .bool true)) ∧ (p ∉ ks → r = none) := by
  cases es with
  | nil =>
    have hk : ks = [] := by simpa using h.symm
    subst hk
    exact ⟨none, by simp [findKey, findNow, run_underlying hu], by simp, fun _ => rfl⟩
  | cons e es =>
    obtain ⟨r, hr, h1⟩ := findAsking_run hq w p (e :: es) ks 0 h
    exact ⟨r, by simp [findKey, findNow, sameNow, run_underlying hu, hr], h1⟩

section
variable {P : Program} {T mt et : TypeId} {fs : Array Field} (hm : P.underlying mt = some (.map T et)) (hu : P.underlying T = some (.struct fs))
  (hq : ∀ (w : World) (x0 y0 x1 y1 : Int), (Op.equal T (.agg #[.int .i64 x0, .int .i64 x1]) (.agg #[.int .i64 y0, .int .i64 y1])).run P w = .ok (x0 == y0 && x1 == y1) w)
  (hk : ∀ (e : Bool) (w : World) (x y : Int), (checkKey e 10000 T (.agg #[.int .i64 x, .int .i64 y])).run P w = .ok () w)
  (hz : ∀ w, (zeroValue et).run P w = .ok (.bool false) w)
include hm hu hq hk hz
theorem set_lookup (w : World) (b : Nat) (ks : List (Int × Int)) (x y : Int) (h : IsSet w b ks) : (lookup mt (.map (some b)) (.agg #[.int .i64 x, .int .i64 y]) false).run P w = .ok (.bool (decide ((x, y) ∈ ks))) w := by
  obtain ⟨es, clock, hb, hes⟩ := h
  obtain ⟨r, hr, h1, h2⟩ := findKey_run hu hq w (x, y) es.toList ks hes
  simp only [pairV] at hr
  by_cases hmem : (x, y) ∈ ks
  · obtain ⟨j, rfl⟩ := h1 hmem
    simp [lookup, run_underlying hm, getObj, Sem.run, hb, hk, hr, hmem, Sem.run_bind]
  · obtain rfl := h2 hmem
    simp [lookup, run_underlying hm, getObj, Sem.run, hb, hk, hr, hmem, hz, Sem.run_bind]
omit hz in
theorem set_insert (w : World) (b : Nat) (ks : List (Int × Int)) (x y : Int) (h : IsSet w b ks) (hn : (x, y) ∉ ks) :
    ∃ w', (mapUpdate mt (.map (some b)) (.agg #[.int .i64 x, .int .i64 y]) (.bool true)).run P w = .ok () w' ∧ IsSet w' b (ks ++ [(x, y)]) ∧ w.grownBy w' (some b) := by
  obtain ⟨es, clock, hb, hes⟩ := h
  obtain ⟨r, hr, h1, h2⟩ := findKey_run hu hq w (x, y) es.toList ks hes
  simp only [pairV] at hr
  obtain rfl := h2 hn
  have hlt : b < w.heap.size := (Array.getElem?_eq_some_iff.1 hb).1
  refine ⟨{ w with heap := w.heap.setIfInBounds b (.map (es.push { key := .agg #[.int .i64 x, .int .i64 y], val := .bool true, born := clock }) (clock + 1)) }, ?_, ⟨es.push { key := .agg #[.int .i64 x, .int .i64 y], val := .bool true, born := clock }, clock + 1, by simp [Array.getElem?_setIfInBounds, hlt], ?_⟩, ?_⟩
  · simp [mapUpdate, run_underlying hm, getObj, setObj, Sem.run, hb, hk, hr, Sem.run_bind]
  · simp only [setEs] at hes ⊢
    simp [hes, pairV]
  · exact ⟨rfl, rfl, rfl, by simp, fun k hkk hne => by simp only [Array.getElem?_setIfInBounds]; rw [if_neg (by rintro rfl; exact hne rfl)]⟩
end

theorem IsSet.kept {w w1 : World} {b : Nat} {ks : List (Int × Int)} (h : IsSet w b ks) (hk : w1.heap[b]? = w.heap[b]?) : IsSet w1 b ks := by
  obtain ⟨es, clock, hb, hes⟩ := h
  exact ⟨es, clock, hk.trans hb, hes⟩
theorem IsSet.lt {w : World} {b : Nat} {ks : List (Int × Int)} (h : IsSet w b ks) : b < w.heap.size := by
  obtain ⟨es, clock, hb, hes⟩ := h
  exact (Array.getElem?_eq_some_iff.1 hb).1
theorem IsSet.below {w w1 : World} {b : Nat} {ks : List (Int × Int)} (h : IsSet w b ks) (hb : Below w.heap.size w w1) : IsSet w1 b ks := h.kept (hb.block b h.lt)
theorem IsSet.alloc {w : World} {b : Nat} {ks : List (Int × Int)} (h : IsSet w b ks) (o : Obj) : IsSet (w.alloc o) b ks := h.kept (Below.heap_alloc w o b h.lt)
theorem IsSet.new (w : World) : IsSet (w.alloc (.map #[] 0)) w.heap.size [] := ⟨_, _, heap_alloc_new w _, rfl⟩
theorem eqOwner' (w : World) (x0 y0 x1 y1 : Int) : (Op.equal 155 (.agg #[.int .i64 x0, .int .i64 x1]) (.agg #[.int .i64 y0, .int .i64 y1])).run Tryz.prog w = .ok (x0 == y0 && x1 == y1) w := eqOwner 9998 w x0 y0 x1 y1
theorem eqLink' (w : World) (x0 y0 x1 y1 : Int) : (Op.equal 96 (.agg #[.int .i64 x0, .int .i64 x1]) (.agg #[.int .i64 y0, .int .i64 y1])).run Tryz.prog w = .ok (x0 == y0 && x1 == y1) w := eqLink 9998 w x0 y0 x1 y1
theorem keyOwner (e : Bool) (w : World) (x y : Int) : (checkKey e 10000 155 (.agg #[.int .i64 x, .int .i64 y])).run Tryz.prog w = .ok () w := by kernel_rfl
theorem keyLink (e : Bool) (w : World) (x y : Int) : (checkKey e 10000 96 (.agg #[.int .i64 x, .int .i64 y])).run Tryz.prog w = .ok () w := by kernel_rfl
theorem zeroBool (w : World) : (zeroValue 4).run Tryz.prog w = .ok (.bool false) w := by kernel_rfl

theorem owner_lookup (w : World) (b : Nat) (ks : List (Int × Int)) (x y : Int) (h : IsSet w b ks) : (lookup 153 (.map (some b)) (.agg #[.int .i64 x, .int .i64 y]) false).run Tryz.prog w = .ok (.bool (decide ((x, y) ∈ ks))) w :=
  set_lookup Tryz.underlying153 Tryz.underlying155 eqOwner' keyOwner zeroBool w b ks x y h
theorem owner_insert (w : World) (b : Nat) (ks : List (Int × Int)) (x y : Int) (h : IsSet w b ks) (hn : (x, y) ∉ ks) :
    ∃ w', (mapUpdate 153 (.map (some b)) (.agg #[.int .i64 x, .int .i64 y]) (.bool true)).run Tryz.prog w = .ok () w' ∧ IsSet w' b (ks ++ [(x, y)]) ∧ w.grownBy w' (some b) :=
  set_insert Tryz.underlying153 Tryz.underlying155 eqOwner' keyOwner w b ks x y h hn
theorem link_lookup (w : World) (b : Nat) (ks : List (Int × Int)) (x y : Int) (h : IsSet w b ks) : (lookup 137 (.map (some b)) (.agg #[.int .i64 x, .int .i64 y]) false).run Tryz.prog w = .ok (.bool (decide ((x, y) ∈ ks))) w :=
  set_lookup Tryz.underlying137 Tryz.underlying96 eqLink' keyLink zeroBool w b ks x y h
theorem link_insert (w : World) (b : Nat) (ks : List (Int × Int)) (x y : Int) (h : IsSet w b ks) (hn : (x, y) ∉ ks) :
    ∃ w', (mapUpdate 137 (.map (some b)) (.agg #[.int .i64 x, .int .i64 y]) (.bool true)).run Tryz.prog w = .ok () w' ∧ IsSet w' b (ks ++ [(x, y)]) ∧ w.grownBy w' (some b) :=
  set_insert Tryz.underlying137 Tryz.underlying96 eqLink' keyLink w b ks x y h hn
end Go.Proofs.YthlbmcfliejdiaaGreat
end

section
set_option linter.unusedVariables false
set_option linter.unusedSimpArgs false
namespace Go.Proofs.YthlbmcfliejdiaaGreat
open Go.RowKit Go.Instr

def linkB (nodes : Int) (c : Lk) : Bool := isNodeB nodes c.a && isNodeB nodes c.b && decide (c.a < c.b)
def tmsB (nodes now : Int) : List (Int × Int) → List Tm → Bool
  | _, [] => true
  | seen, t :: r => isTimerB nodes now t && !decide ((t.node, t.tag) ∈ seen) && tmsB nodes now (seen ++ [(t.node, t.tag)]) r
def checkB (x : Nt) : Bool :=
  decide (1 ≤ x.nodes) && decide (x.nodes ≤ 16) && decide (0 ≤ x.now) && decide (x.now ≤ 1099511627776) && decide (0 ≤ x.next) && decide (x.next ≤ 1099511627776) && decide (x.way.length ≤ 200) && decide (x.timers.length ≤ 64) &&
  risesF lkCmp x.cuts && risesF tmCmp x.timers && x.way.all (isLetterB x.nodes x.next) && x.cuts.all (linkB x.nodes) && tmsB x.nodes x.now [] x.timers

def chkE (x : Nt) : Int := if checkB x = true then 0 else 2
theorem chkE_bad {x : Nt} (h : checkB x = false) : (2 : Int) = chkE x := by simp [chkE, h]
theorem chkE_ok {x : Nt} (h : checkB x = true) : (0 : Int) = chkE x := by simp [chkE, h]

/-- What Check asks ahead of its loops. -/
def preOk (x : Nt) : Prop := (1 ≤ x.nodes ∧ x.nodes ≤ 16 ∧ 0 ≤ x.now ∧ x.now ≤ 1099511627776 ∧ 0 ≤ x.next ∧ x.next ≤ 1099511627776 ∧ x.way.length ≤ 200 ∧ x.timers.length ≤ 64) ∧ risesF lkCmp x.cuts = true ∧ risesF tmCmp x.timers = true

set_option maxHeartbeats 4000000 in
set_option maxRecDepth 100000 in
theorem Check_bad (x : Nt) (AW AC AT : Option Addr) (cW cC cT : Nat) (w : World) (hlw : x.way.length ≤ 9223372036854775807) (hlc : x.cuts.length ≤ 9223372036854775807) (hlt : x.timers.length ≤ 9223372036854775807)
    (hW : Rd w AW x.way) (hC : Rd w AC x.cuts) (hT : Rd w AT x.timers) (hpre : ¬ preOk x) :
    Calls Tryz.prog 67 #[.agg #[.int .i64 x.nodes, .int .i64 x.now, .int .i64 x.next, .slice AW x.way.length cW, .slice AC x.cuts.length cC, .slice AT x.timers.length cT]] w
    fun e w' => e = .returned (.int .i64 (chkE x)) ∧ Below w.heap.size w w' := by
  have HPRE := Lib.hid hpre
  clear hpre
  go_enter Tryz.func67, Tryz.ntmps67
  go_wp2_with (first | (go_at_call 106; refine calls_below (risesL_any _ _ _ _ hlc (hC.below (below_alloc (Below.refl _ _) _))) ?_; intro w1 hb1; have hb0 := hb1; clear hb1; obtain ⟨hc, -⟩ := bcell hb0) | (go_at_call 107; refine calls_below (risesT_any _ _ _ _ hlt (hT.below (below_trans (below_alloc (Below.refl _ _) _) hb0))) ?_; intro w1 hb1; replace hb0 := below_trans hb0 hb1; clear hc hb1; obtain ⟨hc, -⟩ := bcell hb0))
  all_goals try
    go_ret
    refine ⟨ret_int (chkE_bad ?_), ?_⟩
    · first | (simp [checkB, *]; done) | (simp [checkB, *]; intros; omega) | (have hx := ‹(200 < (x.way.length : Int) ∨ 64 < (x.timers.length : Int)) ∨ (!risesF tmCmp x.timers) = true›; rcases hx with (hx | hx) | hx <;> first | omega | (simp only [Bool.not_eq_true'] at hx; simp [checkB, hx]))
    · first | exact below_trans (below_alloc (Below.refl _ _) _) hb0 | exact below_alloc (Below.refl _ _) _
  exfalso
  apply HPRE.out
  have hx := ‹((x.way.length : Int) ≤ 200 ∧ (x.timers.length : Int) ≤ 64) ∧ (!risesF tmCmp x.timers) = false›
  refine ⟨⟨?_, ?_, ?_, ?_, ?_, ?_, ?_, ?_⟩, by assumption, by simpa using hx.2⟩ <;> omega

set_option maxHeartbeats 4000000 in
set_option maxRecDepth 100000 in
theorem Check_good (x : Nt) (AW AC AT : Option Addr) (cW cC cT : Nat) (w : World) (hlw : x.way.length ≤ 9223372036854775807) (hlc : x.cuts.length ≤ 9223372036854775807) (hlt : x.timers.length ≤ 9223372036854775807)
    (hW : Rd w AW x.way) (hC : Rd w AC x.cuts) (hT : Rd w AT x.timers) (hpre : preOk x) :
    Calls Tryz.prog 67 #[.agg #[.int .i64 x.nodes, .int .i64 x.now, .int .i64 x.next, .slice AW x.way.length cW, .slice AC x.cuts.length cC, .slice AT x.timers.length cT]] w
    fun e w' => e = .returned (.int .i64 (chkE x)) ∧ Below w.heap.size w w' := by
  obtain ⟨⟨h1, h2, h3, h4, h5, h6, h7, h8⟩, hr1, hr2⟩ := hpre
  have hchk : Hid (checkB x = (x.way.all (isLetterB x.nodes x.next) && (x.cuts.all (linkB x.nodes) && tmsB x.nodes x.now [] x.timers))) := by
    show _ = _
    simp [checkB, *, Bool.and_assoc]
  go_enter Tryz.func67, Tryz.ntmps67
  go_wp2_with (first | (go_at_call 106; refine calls_below (risesL_any _ _ _ _ hlc (hC.below (below_alloc (Below.refl _ _) _))) ?_; intro w1 hb1; have hb0 := hb1; clear hb1; obtain ⟨hc, -⟩ := bcell hb0) | (go_at_call 107; refine calls_below (risesT_any _ _ _ _ hlt (hT.below (below_trans (below_alloc (Below.refl _ _) _) hb0))) ?_; intro w1 hb1; replace hb0 := below_trans hb0 hb1; clear hc hb1; obtain ⟨hc, -⟩ := bcell hb0))
  clear hr1 hr2
  obtain ⟨W0, hW0⟩ : ∃ W0, W0 = w.alloc (.cells #[.int .i64 x.nodes, .int .i64 x.now, .int .i64 x.next, .slice AW x.way.length cW, .slice AC x.cuts.length cC, .slice AT x.timers.length cT] 26) := ⟨_, rfl⟩
  have hB0 : Below w.heap.size w W0 := by rw [hW0]; exact below_alloc (Below.refl _ _) _
  have hz0 : W0.heap.size = w.heap.size + 1 := by rw [hW0]; simp
  have hcells : ∀ wr, Below W0.heap.size W0 wr → wr.cell? ⟨w.heap.size, 0, none⟩ = some (.int .i64 x.nodes) ∧ wr.cell? ⟨w.heap.size, 1, none⟩ = some (.int .i64 x.now) ∧ wr.cell? ⟨w.heap.size, 2, none⟩ = some (.int .i64 x.next) ∧
      wr.cell? ⟨w.heap.size, 3, none⟩ = some (.slice AW x.way.length cW) ∧ wr.cell? ⟨w.heap.size, 4, none⟩ = some (.slice AC x.cuts.length cC) ∧ wr.cell? ⟨w.heap.size, 5, none⟩ = some (.slice AT x.timers.length cT) ∧ w.heap.size < wr.heap.size := by
    intro wr hb
    have hb' := hb.size
    refine ⟨cell_below hb ?_, cell_below hb ?_, cell_below hb ?_, cell_below hb ?_, cell_below hb ?_, cell_below hb ?_, by omega⟩ <;> (rw [hW0]; go_simp)
  have hB : Below W0.heap.size W0 w1 := by rw [hW0]; exact hb0
  clear hb0 hc
  have HW0 := Lib.hid hW0
  have HZ0 := Lib.hid hz0
  clear hW0 hz0
  go_loopw [64] (fun i wr => ∃ k : Nat, k ≤ x.way.length ∧ i = .int .i64 k ∧ Hid (x.way.all (isLetterB x.nodes x.next) = (x.way.drop k).all (isLetterB x.nodes x.next)) ∧ Below W0.heap.size W0 wr) (fun i _ => x.way.length - (intOf i).toNat)
  case atStart => exact ⟨0, Nat.zero_le _, rfl, rfl, hB⟩
  case round =>
    clear hB
    obtain ⟨k, hk, rfl, ho, hB⟩ := hrel
    obtain ⟨k0, k1, k2, k3, k4, k5, ks⟩ := hcells wr hB
    by_cases hlk : k < x.way.length
    · obtain ⟨b, off, l, rfl, hx, c0, c1, c2, c3, c4⟩ := (hW.below (below_trans hB0 hB)).lt k hlk
      have hd : Hid ((x.way.drop k).all (isLetterB x.nodes x.next) = (isLetterB x.nodes x.next l && (x.way.drop (k + 1)).all (isLetterB x.nodes x.next))) := by
        show _ = _
        rw [drop_at hx, List.all_cons]
      go_wp2_with fail
      refine calls_below (isLetter_any _ _ _ _ _ _ _ _ _ _ _ _ l _) ?_
      intro w2 hb2
      have hB2 : Below W0.heap.size W0 w2 := below_trans (below_alloc hB _) hb2
      cases hl : isLetterB x.nodes x.next l
      · have HL := Lib.hid hl
        clear hl
        go_wp2
        go_ret
        exact ⟨ret_int (chkE_bad (by rw [hchk.out, ho.out, hd.out, HL.out]; rfl)), below_trans hB0 hB2⟩
      · have HL := Lib.hid hl
        clear hl
        go_wp2
        go_roundw
        case rel => exact ⟨k + 1, by omega, by go_num, by show _ = _; rw [ho.out, hd.out, HL.out]; rfl, hB2⟩
        case measure => simp [intOf]; omega
    · have hway : Hid (x.way.all (isLetterB x.nodes x.next) = true) := by
        show _ = _
        rw [ho.out, List.drop_of_length_le (by omega)]
        rfl
      clear ho
      obtain rfl : k = x.way.length := by omega
      go_wp2
      go_loopw [76] (fun i wr => ∃ k : Nat, k ≤ x.cuts.length ∧ i = .int .i64 k ∧ Hid (x.cuts.all (linkB x.nodes) = (x.cuts.drop k).all (linkB x.nodes)) ∧ Below W0.heap.size W0 wr) (fun i _ => x.cuts.length - (intOf i).toNat)
      case atStart => exact ⟨0, Nat.zero_le _, rfl, rfl, hB⟩
      case round =>
        clear hB k0 k1 k2 k3 k4 k5 ks
        obtain ⟨k, hk, rfl, ho, hB⟩ := hrel
        obtain ⟨k0, k1, k2, k3, k4, k5, ks⟩ := hcells _ hB
        by_cases hlk : k < x.cuts.length
        · obtain ⟨b, off, l, rfl, hx, c0, c1⟩ := (hC.below (below_trans hB0 hB)).lk k hlk
          have hd : Hid ((x.cuts.drop k).all (linkB x.nodes) = ((isNodeB x.nodes l.a && isNodeB x.nodes l.b && decide (l.a < l.b)) && (x.cuts.drop (k + 1)).all (linkB x.nodes))) := by
            show _ = _
            rw [drop_at hx, List.all_cons]
            rfl
          go_wp2_with (go_at_call 71; refine calls_below (isNode_any _ _ _ _ _ _ _ _ _ _ _ _ _ _) ?_; intro w1 hb1; (first | (replace hb0 := below_trans hb0 hb1; clear hc hb1) | (have hb0 := hb1; clear hb1)); obtain ⟨hc, -⟩ := bcell hb0)
          all_goals try
            go_ret
            refine ⟨ret_int (chkE_bad ?_), below_trans hB0 (below_trans (below_alloc hB _) hb0)⟩
            rw [hchk.out, hway.out, ho.out, hd.out]
            first | (simp [*]; done) | (simp [*]; intros; omega)
          go_roundw
          case rel =>
            refine ⟨k + 1, by omega, by go_num, ?_, below_trans (below_alloc hB _) hb0⟩
            show _ = _
            rw [ho.out, hd.out]
            simp [*]
          case measure => simp [intOf]; omega
        · have hcut : Hid (x.cuts.all (linkB x.nodes) = true) := by
            show _ = _
            rw [ho.out, List.drop_of_length_le (by omega)]
            rfl
          clear ho
          obtain rfl : k = x.cuts.length := by omega
          have hmm := @run_makeMap Tryz.prog
          go_wp2
          obtain ⟨wo, rfl⟩ : ∃ wo : World, wo = wr := ⟨_, rfl⟩
          have hBo := hB
          have hle : W0.heap.size ≤ wo.heap.size := hB.size
          go_loopw [104] (fun i wr => ∃ (k : Nat) (seen : List (Int × Int)), k ≤ x.timers.length ∧ i = .int .i64 k ∧ Hid (tmsB x.nodes x.now [] x.timers = tmsB x.nodes x.now seen (x.timers.drop k)) ∧ Hid (IsSet wr wo.heap.size seen) ∧ Below W0.heap.size W0 wr) (fun i _ => x.timers.length - (intOf i).toNat)
          case atStart => exact ⟨0, [], Nat.zero_le _, rfl, rfl, IsSet.new wo, below_alloc hBo _⟩
          case round =>
            clear hB hBo k0 k1 k2 k3 k4 k5 ks
            obtain ⟨k, seen, hk, rfl, ho, hset, hB⟩ := hrel
            obtain ⟨k0, k1, k2, k3, k4, k5, ks⟩ := hcells _ hB
            by_cases hlk : k < x.timers.length
            · obtain ⟨b, off, l, rfl, hx, c0, c1, c2⟩ := (hT.below (below_trans hB0 hB)).tm k hlk
              have hd : Hid (tmsB x.nodes x.now seen (x.timers.drop k) = (isTimerB x.nodes x.now l && !decide ((l.node, l.tag) ∈ seen) && tmsB x.nodes x.now (seen ++ [(l.node, l.tag)]) (x.timers.drop (k + 1)))) := by
                show _ = _
                rw [drop_at hx, tmsB]
              go_wp2_with fail
              refine calls_below (isTimer_any _ _ _ _ _ _ _ _ _ _ _ _ l _) ?_
              intro w2 hb2
              have hB2 : Below W0.heap.size W0 w2 := below_trans (below_alloc (below_alloc hB _) _) hb2
              have hs2 : Hid (IsSet w2 wo.heap.size seen) := ((hset.out.alloc _).alloc _).below hb2
              obtain ⟨kc, -⟩ := bcell hb2
              cases hti : isTimerB x.nodes x.now l
              · have HL := Lib.hid hti
                clear hti
                go_wp2
                go_ret
                exact ⟨ret_int (chkE_bad (by rw [hchk.out, hway.out, hcut.out, ho.out, hd.out, HL.out]; rfl)), below_trans hB0 hB2⟩
              · have HL := Lib.hid hti
                clear hti
                have hl := owner_lookup w2 wo.heap.size seen l.node l.tag hs2.out
                by_cases hmem : (l.node, l.tag) ∈ seen
                · rw [decide_eq_true hmem] at hl
                  have HM := Lib.hid hmem
                  clear hmem
                  go_wp2
                  go_ret
                  exact ⟨ret_int (chkE_bad (by rw [hchk.out, hway.out, hcut.out, ho.out, hd.out, HL.out, decide_eq_true HM.out]; rfl)), below_trans hB0 hB2⟩
                · rw [decide_eq_false hmem] at hl
                  obtain ⟨w3, hu, hs3, hg3⟩ := owner_insert w2 wo.heap.size seen l.node l.tag hs2.out hmem
                  have HS3 := Lib.hid hs3
                  have HM := Lib.hid hmem
                  clear hmem hs3
                  have hB3 : Below W0.heap.size W0 w3 := hB2.grown hg3 hB2.size (fun j e => by cases e; exact hle)
                  go_wp2
                  go_roundw
                  case rel =>
                    refine ⟨k + 1, seen ++ [(l.node, l.tag)], by omega, by go_num, ?_, HS3.out, hB3⟩
                    show _ = _
                    rw [ho.out, hd.out, HL.out, decide_eq_false HM.out]
                    rfl
                  case measure => simp [intOf]; omega
            · have htm : Hid (tmsB x.nodes x.now [] x.timers = true) := by
                show _ = _
                rw [ho.out, List.drop_of_length_le (by omega), tmsB]
              clear ho
              obtain rfl : k = x.timers.length := by omega
              go_wp2
              go_ret
              exact ⟨ret_int (chkE_ok (by rw [hchk.out, hway.out, hcut.out, htm.out]; rfl)), below_trans hB0 hB⟩

theorem Check_any (x : Nt) (AW AC AT : Option Addr) (cW cC cT : Nat) (w : World) (hlw : x.way.length ≤ 9223372036854775807) (hlc : x.cuts.length ≤ 9223372036854775807) (hlt : x.timers.length ≤ 9223372036854775807)
    (hW : Rd w AW x.way) (hC : Rd w AC x.cuts) (hT : Rd w AT x.timers) :
    Calls Tryz.prog 67 #[.agg #[.int .i64 x.nodes, .int .i64 x.now, .int .i64 x.next, .slice AW x.way.length cW, .slice AC x.cuts.length cC, .slice AT x.timers.length cT]] w
    fun e w' => e = .returned (.int .i64 (chkE x)) ∧ Below w.heap.size w w' := by
  by_cases h : preOk x
  · exact Check_good x AW AC AT cW cC cT w hlw hlc hlt hW hC hT h
  · exact Check_bad x AW AC AT cW cC cT w hlw hlc hlt hW hC hT h
end Go.Proofs.YthlbmcfliejdiaaGreat
end
