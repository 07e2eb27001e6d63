/- Plain laws of Calm: what it delivers and what fires, tick by tick. The contract of the iterator that the method ready returns, where a round may also write one block of another kind. (Printed by wip/gen_rdyx.py.). Words for the walk of Calm: append inside a fence; states with marks; what is kept from tick to tick. The contract of Calm. (Printed by wip/gen_clm.py.). The contract of Calm, at whatever network and number. What the reference's Calm keeps. (Printed by wip/gen_refca.py.). The rounds of the reference's Calm. (Printed by wip/gen_refca.py.). A tick of the reference's Calm. (Printed by wip/gen_refcc.py.). The contract of the reference's Calm. (Printed by wip/gen_refcd.py.). -/
import Derived.Test.YthlbmcfliejdiaaGreatGf
import Derived.Test.YthlbmcfliejdiaaGreatGe
import Derived.Test.YthlbmcfliejdiaaGreatGb
import Derived.Test.YthlbmcfliejdiaaGreatGc
import Derived.Test.YthlbmcfliejdiaaGreatGa
import Derived.RangeFuncNested
import Derived.RangeFuncBound
import Derived.RangeFuncCalls
import Derived.RangeFuncLeaves
import Derived.Shelf.Abstract
import Derived.Shelf.RegionOpen
import Derived.OwnWalkIn
import Derived.TacticsInMore
import Derived.LoopNIn
import Derived.LoopIn
import Derived.Test.YthlbmcfliejdiaaGreatGj
import Derived.Scope
import Derived.WalkMore
import Derived.Test.YthlbmcfliejdiaaGreatGg
import Derived.Test.YthlbmcfliejdiaaGreatGo
section
set_option linter.unusedVariables false
set_option linter.unusedSimpArgs false
namespace Go.Proofs.YthlbmcfliejdiaaGreat
open Go.RowKit

def dueF (now : Int) (xs : List Lt) : List Lt := xs.filter (fun l => decide (l.rd ≤ now))
def ndueF (now : Int) (xs : List Lt) : List Lt := xs.filter (fun l => !decide (l.rd ≤ now))
def noCut (x : Nt) : Nt := { x with cuts := [] }
/-- A tick's deliveries, and the tick. -/
def calm1 (x : Nt) : Nt := (tickM { x with way := ndueF x.now x.way }).x
def calmX (x : Nt) : Nat → Nt
  | 0 => x
  | k + 1 => calm1 (calmX x k)
def calmL (x : Nt) : Nat → List Lt
  | 0 => []
  | k + 1 => calmL x k ++ dueF (calmX x k).now (calmX x k).way
def calmT (x : Nt) : Nat → List Tm
  | 0 => []
  | k + 1 => calmT x k ++ (tickM (calmX x k)).ts
/-- In the middle of a tick: some have been delivered. -/
def Dlv (x0 : Nt) (L0 : List Lt) (y : Nt) (L : List Lt) : Prop :=
  y = { x0 with way := y.way } ∧ ndueF x0.now y.way = ndueF x0.now x0.way ∧ L ++ dueF x0.now y.way = L0 ++ dueF x0.now x0.way ∧ y.way.length ≤ x0.way.length

theorem range_head {n i : Nat} {f : Nat → Bool} {r : List Nat} (h : (List.range n).filter f = i :: r) : i < n ∧ f i = true ∧ ∀ j, j < i → f j = false := by
  have hm : i ∈ (List.range n).filter f := by rw [h]; simp
  obtain ⟨h1, h2⟩ := List.mem_filter.1 hm
  have hp : ((List.range n).filter f).Pairwise (· < ·) := List.Pairwise.filter _ List.pairwise_lt_range
  rw [h] at hp
  refine ⟨List.mem_range.1 h1, h2, fun j hj => ?_⟩
  cases hf : f j
  · rfl
  · have hj2 : j ∈ (List.range n).filter f := List.mem_filter.2 ⟨List.mem_range.2 (by have := List.mem_range.1 h1; omega), hf⟩
    rw [h] at hj2
    rcases List.mem_cons.1 hj2 with e | e
    · omega
    · have := (List.pairwise_cons.1 hp).1 j e; omega
theorem filter_first {α : Type} (p : α → Bool) : ∀ (ws : List α) (i : Nat) (l : α), ws[i]? = some l → p l = true → (∀ j, j < i → ∀ z, ws[j]? = some z → p z = false) →
    ws.filter p = l :: (ws.eraseIdx i).filter p ∧ (ws.eraseIdx i).filter (fun z => !p z) = ws.filter (fun z => !p z)
  | [], i, l, h, _, _ => by simp at h
  | y :: r, 0, l, h, hp, _ => by
    have : y = l := by simpa using h
    subst this
    simp [hp]
  | y :: r, i + 1, l, h, hp, hj => by
    obtain ⟨a, b⟩ := filter_first p r i l (by simpa using h) hp (fun j hlt z hz => hj (j + 1) (by omega) z (by simpa using hz))
    have hy : p y = false := hj 0 (by omega) y (by simp)
    rw [List.eraseIdx_cons_succ]
    constructor
    · rw [List.filter_cons_of_neg (by simp [hy]), List.filter_cons_of_neg (by simp [hy])]; exact a
    · rw [List.filter_cons_of_pos (by simp [hy]), List.filter_cons_of_pos (by simp [hy]), b]
theorem canB_nocut {x : Nt} (h : x.cuts = []) (l : Lt) : canB x l = decide (l.rd ≤ x.now) := by unfold canB; rw [h]; simp
/-- Nothing can be delivered: all that is due is gone. -/
theorem rdy_none {y : Nt} (hc : y.cuts = []) (h : rdyF y = []) : dueF y.now y.way = [] := by
  rw [dueF, List.filter_eq_nil_iff]
  intro l hl
  obtain ⟨i, hi, rfl⟩ := List.getElem_of_mem hl
  intro hd
  have : i ∈ rdyF y := (mem_rdy y i).2 ⟨_, List.getElem?_eq_getElem hi, by rw [canB_nocut hc]; exact hd⟩
  rw [h] at this
  simp at this
theorem rdy_some {y : Nt} (hc : y.cuts = []) {i : Nat} {r : List Nat} (h : rdyF y = i :: r) :
    ∃ l, y.way[i]? = some l ∧ dueF y.now y.way = l :: dueF y.now (y.way.eraseIdx i) ∧ ndueF y.now (y.way.eraseIdx i) = ndueF y.now y.way ∧ deliverM y i = ⟨{ y with way := y.way.eraseIdx i }, 0, l, [], 0⟩ := by
  obtain ⟨h1, h2, h3⟩ := range_head h
  obtain ⟨l, hl, hcan⟩ := (mem_rdy y i).1 (by rw [h]; simp)
  have hd : decide (l.rd ≤ y.now) = true := by rw [← canB_nocut hc]; exact hcan
  obtain ⟨a, b⟩ := filter_first (fun l : Lt => decide (l.rd ≤ y.now)) y.way i l hl hd (fun j hj z hz => by
    have := h3 j hj
    unfold canI at this
    rw [hz] at this
    simp only at this
    rw [← canB_nocut hc]; exact this)
  refine ⟨l, hl, a, b, ?_⟩
  unfold deliverM
  rw [if_neg (by simp [hasB]; omega), Int.toNat_natCast, hl]
  simp [hcan]
theorem deliver_no (y : Nt) : deliverM y (-1) = errR 4 := by unfold deliverM; rw [if_pos (by simp [hasB])]
theorem dlv_start (x : Nt) (L : List Lt) : Dlv x L x L := ⟨rfl, rfl, rfl, Nat.le_refl _⟩
theorem dlv_step {x0 : Nt} {L0 : List Lt} {y : Nt} {L : List Lt} (h : Dlv x0 L0 y L) (hc : x0.cuts = []) {i : Nat} {r : List Nat} (hr : rdyF y = i :: r) :
    ∃ l, deliverM y i = ⟨{ y with way := y.way.eraseIdx i }, 0, l, [], 0⟩ ∧ Dlv x0 L0 { y with way := y.way.eraseIdx i } (L ++ [l]) ∧ (y.way.eraseIdx i).length + 1 = y.way.length := by
  obtain ⟨h1, h2, h3, h4⟩ := h
  have hn : y.now = x0.now := by rw [h1]
  have hcy : y.cuts = [] := by rw [h1]; exact hc
  obtain ⟨l, a, b, c, d⟩ := rdy_some hcy hr
  rw [hn] at b c
  have hi := (List.getElem?_eq_some_iff.1 a).1
  have hl : (y.way.eraseIdx i).length + 1 = y.way.length := by rw [List.length_eraseIdx, if_pos hi]; omega
  refine ⟨l, d, ⟨by rw [h1], by show ndueF _ (y.way.eraseIdx i) = _; rw [c, h2], ?_, by show (y.way.eraseIdx i).length ≤ _; omega⟩, hl⟩
  show (L ++ [l]) ++ dueF _ (y.way.eraseIdx i) = _
  rw [← h3, b, List.append_assoc, List.singleton_append]
theorem ndue_all {now : Int} {ws : List Lt} (h : dueF now ws = []) : ndueF now ws = ws := by
  unfold ndueF
  rw [List.filter_eq_self]
  intro l hl
  unfold dueF at h
  have := List.filter_eq_nil_iff.1 h l hl
  simpa using this
theorem dlv_end {x0 : Nt} {L0 : List Lt} {y : Nt} {L : List Lt} (h : Dlv x0 L0 y L) (hc : x0.cuts = []) (hr : rdyF y = []) : y = { x0 with way := ndueF x0.now x0.way } ∧ L = L0 ++ dueF x0.now x0.way := by
  obtain ⟨h1, h2, h3, h4⟩ := h
  have hn : y.now = x0.now := by rw [h1]
  have hcy : y.cuts = [] := by rw [h1]; exact hc
  have hd := rdy_none hcy hr
  rw [hn] at hd
  have hw : y.way = ndueF x0.now x0.way := by rw [← h2, ndue_all hd]
  constructor
  · rw [← hw]; exact h1
  · rw [hd, List.append_nil] at h3; exact h3
theorem tick_ways (x : Nt) (ws : List Lt) : (tickM { x with way := ws }).ts = (tickM x).ts ∧ (tickM { x with way := ws }).e = (tickM x).e := by
  unfold tickM
  by_cases h : x.now = 1099511627776 <;> simp [h]

/-! Well-formed all along. -/
theorem sub_keeps {x : Nt} (h : Ok x) {ws : List Lt} (hs : ws.Sublist x.way) : Ok { x with way := ws } :=
  ⟨h.n1, h.n2, h.t0, h.t1, h.s0, h.s1, Nat.le_trans hs.length_le h.way, h.tms, h.risC, h.risT, fun l hl => h.lts l (hs.subset hl), h.lks, h.tmo⟩
theorem nocut_ok {x : Nt} (h : Ok x) : Ok (noCut x) := ⟨h.n1, h.n2, h.t0, h.t1, h.s0, h.s1, h.way, h.tms, rfl, h.risT, h.lts, by intro c hc; exact absurd hc (by simp [noCut]), h.tmo⟩
theorem calm_at {x : Nt} (h : Ok x) : ∀ (k : Nat), x.now + k ≤ 1099511627776 → Ok (calmX x k) ∧ (calmX x k).now = x.now + k ∧ (calmX x k).cuts = x.cuts ∧ (calmX x k).nodes = x.nodes ∧ (calmX x k).next = x.next
  | 0, _ => ⟨h, by show x.now = _; simp, rfl, rfl, rfl⟩
  | k + 1, hk => by
    obtain ⟨a, b, c, d, e⟩ := calm_at h k (by omega)
    have hn : ¬ (calmX x k).now = 1099511627776 := by omega
    have he : (tickM { calmX x k with way := ndueF (calmX x k).now (calmX x k).way }).e = 0 := by unfold tickM; rw [if_neg (by exact hn)]
    have hx : (calmX x (k + 1)) = { calmX x k with now := (calmX x k).now + 1, way := ndueF (calmX x k).now (calmX x k).way, timers := (calmX x k).timers.filter (fun t => decide (t.t ≠ (calmX x k).now + 1)) } := by
      show calm1 _ = _
      unfold calm1 tickM; rw [if_neg (by exact hn)]
    refine ⟨tick_keeps (sub_keeps a List.filter_sublist) he, ?_, ?_, ?_, ?_⟩
    · rw [hx]; simp only; omega
    · rw [hx]; exact c
    · rw [hx]; exact d
    · rw [hx]; exact e
theorem calm_succ {x : Nt} (k : Nat) (hn : ¬ (calmX x k).now = 1099511627776) :
    (calmX x (k + 1)) = { calmX x k with now := (calmX x k).now + 1, way := ndueF (calmX x k).now (calmX x k).way, timers := (calmX x k).timers.filter (fun t => decide (t.t ≠ (calmX x k).now + 1)) } ∧
    calmT x (k + 1) = calmT x k ++ (calmX x k).timers.filter (fun t => decide (t.t = (calmX x k).now + 1)) := by
  constructor
  · show calm1 _ = _
    unfold calm1 tickM; rw [if_neg (by exact hn)]
  · show calmT x k ++ _ = _
    unfold tickM; rw [if_neg hn]

/-! What is left, what went. -/
theorem filter_perm {α : Type} (p : α → Bool) : ∀ (xs : List α), (xs.filter p ++ xs.filter (fun z => !p z)).Perm xs
  | [] => List.Perm.refl _
  | y :: r => by
    have ih := filter_perm p r
    cases hp : p y
    · rw [List.filter_cons_of_neg (by simp [hp]), List.filter_cons_of_pos (by simp [hp])]
      exact (List.perm_middle).trans (ih.cons y)
    · rw [List.filter_cons_of_pos hp, List.filter_cons_of_neg (by simp [hp])]
      exact ih.cons y
theorem calm_perm {x : Nt} (h : Ok x) : ∀ (k : Nat), x.now + k ≤ 1099511627776 → (calmL x k ++ (calmX x k).way).Perm x.way
  | 0, _ => List.Perm.refl _
  | k + 1, hk => by
    have hi := calm_perm h k (by omega)
    obtain ⟨a, b, -⟩ := calm_at h k (by omega)
    rw [(calm_succ k (by omega)).1]
    show ((calmL x k ++ dueF _ _) ++ ndueF _ _).Perm _
    rw [List.append_assoc]
    exact (List.Perm.append_left _ (filter_perm _ _)).trans hi
theorem calm_tperm {x : Nt} (h : Ok x) : ∀ (k : Nat), x.now + k ≤ 1099511627776 → (calmT x k ++ (calmX x k).timers).Perm x.timers ∧ (calmX x k).timers = x.timers.filter (fun t => decide (x.now + k < t.t))
  | 0, _ => ⟨List.Perm.refl _, by
      show x.timers = _
      rw [List.filter_eq_self.2]
      intro t ht
      have := later h ht
      simpa using this⟩
  | k + 1, hk => by
    obtain ⟨hi, hf⟩ := calm_tperm h k (by omega)
    obtain ⟨a, b, -⟩ := calm_at h k (by omega)
    obtain ⟨e1, e2⟩ := calm_succ (x := x) k (by omega)
    rw [e1, e2]
    constructor
    · show ((calmT x k ++ _) ++ List.filter _ _).Perm _
      rw [List.append_assoc]
      refine (List.Perm.append_left _ ?_).trans hi
      have := filter_perm (fun t : Tm => decide (t.t = (calmX x k).now + 1)) (calmX x k).timers
      have e : (fun z : Tm => !decide (z.t = (calmX x k).now + 1)) = (fun t => decide (t.t ≠ (calmX x k).now + 1)) := by funext t; simp
      rw [e] at this
      exact this
    · show List.filter _ (calmX x k).timers = _
      rw [hf, List.filter_filter, b]
      congr 1
      funext t
      rw [Bool.eq_iff_iff]; simp; omega
/-! Bounds of a network that acts lead to. -/
end Go.Proofs.YthlbmcfliejdiaaGreat
end

section
set_option linter.unusedVariables false
set_option linter.unusedSimpArgs false
namespace Go.Proofs.YthlbmcfliejdiaaGreat
open Go.RowKit Go.Shelf
attribute [local go_sem] Oper.semAt_some

/-- What lay below n lies as it lay, but for block c. -/
structure BelowX (c n : Nat) (w W : World) : Prop where
  size : w.heap.size ≤ W.heap.size
  blocks : ∀ i, i < n → i ≠ c → W.heap[i]? = w.heap[i]?
theorem BelowX.of {c n : Nat} {w W : World} (h : Below n w W) : BelowX c n w W := ⟨h.size, fun i hi _ => h.block i hi⟩
theorem BelowX.drew {c n : Nat} {w W : World} (h : BelowX c n w W) : BelowX c n w W.drew := ⟨h.size, h.blocks⟩
theorem BelowX.trans {c n : Nat} {w W V : World} (h : BelowX c n w W) (k : BelowX c n W V) : BelowX c n w V := ⟨Nat.le_trans h.size k.size, fun i hi hc => (k.blocks i hi hc).trans (h.blocks i hi hc)⟩
theorem BelowX.block {c : Nat} {w W : World} {g : Nat} {o : Obj} (h : BelowX c w.heap.size w W) (hg : g ≠ c) (ho : w.heap[g]? = some o) : W.heap[g]? = some o := (h.blocks g (bl_lt ho) hg).trans ho
theorem BelowX.cell {c : Nat} {w W : World} {a : Addr} {v : Value} (h : BelowX c w.heap.size w W) (hg : a.block ≠ c) (ho : w.cell? a = some v) : W.cell? a = some v :=
  (World.cell?_of_block (h.blocks a.block (World.block_lt_of_cell? w a ho) hg)).trans ho
theorem Own.belowX {α : Type} [Enc α] {c : Nat} {w W : World} {B : Nat} {e : TypeId} {v : Value} {xs : List α} (h : Own w B e v xs) (hb : BelowX c w.heap.size w W) (hv : v.ownBlock ≠ some c) : Own W B e v xs := by
  refine ⟨h.1, ?_⟩
  rcases h.2 with hn | ⟨g, cap, cur, rfl, hg, hh, rest⟩
  · exact .inl hn
  · exact .inr ⟨g, cap, cur, rfl, hg, hb.block (fun e => hv (by rw [e]; rfl)) hh, rest⟩
theorem rdy_mem {x : Nt} {k : Nat} (h : canI x k = true) (hk : k < x.way.length) : k ∈ rdyF x := List.mem_filter.2 ⟨List.mem_range.2 hk, h⟩
def KptX (c n : Nat) (A B : World) : Prop := BelowX c n A B ∧ KeepsWalks A B
theorem kptx_t {c n : Nat} {A B C : World} (h : KptX c n A B) (k : KptX c n B C) : KptX c n A C := ⟨h.1.trans k.1, walksK_t h.2 k.2⟩
theorem kptx_b {c m : Nat} {w : World} (hn : m ≤ w.heap.size) (W : World) (l : Nat) (o o' : Obj) (hl : w.heap.size ≤ l) (h : W.heap[l]? = some o) (hc : o.isCells = false) (hw : o.isWalk = false) : KptX c m W (W.putObj l o') :=
  ⟨BelowX.of (belowK_b hn W l o o' hl h hc hw), walksK_b W l o o' hl h hc hw⟩

set_option maxHeartbeats 4000000 in
set_option maxRecDepth 100000 in
theorem ready1_inX (n l bx g B cx : Nat) (x : Nt) (w : World) (hbx : w.cell? ⟨bx, 0, none⟩ = some (.pointer (some ⟨g, 0, none⟩))) (hS : St w B g x) (hcb : bx ≠ cx) (hcg : g ≠ cx) (hcr : ∀ j v, w.cell? ⟨g, j, none⟩ = some v → v.ownBlock ≠ some cx) (hnd : (x.cuts.map prL).Nodup) (hlw : x.way.length ≤ 10000000) (hlc : x.cuts.length ≤ 10000000)
    (J Jx : List Nat → World → Prop) (W : World) (hb0 : Below w.heap.size w W) (hJ : AbidesFrom W.heap.size J)
    (hY : ∀ pre (k : Nat) W1, J pre W1 → pre.length < (rdyF x).length → k ∈ rdyF x → YieldAt Fence.wide (n - 1) Tryz.prog l #[.int .i64 (k : Int)] W1 fun e W' =>
      (e = .returned (.bool true) ∧ J (pre ++ [k]) W' ∧ KptX cx w.heap.size W1 W') ∨ (e = .returned (.bool false) ∧ Jx (pre ++ [k]) W')) (h0 : J [] W) :
    CallsIn Fence.wide n Tryz.prog 94 #[.func (.yield l) #[] #[], .pointer (some ⟨bx, 0, none⟩)] W fun e W' => (∃ v, e = .returned v) ∧ ((∃ xs, xs = rdyF x ∧ J xs W') ∨ (∃ pre, pre <+: rdyF x ∧ Jx pre W')) := by
  have HBXX : Hid (∀ V, BelowX cx w.heap.size w V → V.cell? ⟨bx, 0, none⟩ = some (.pointer (some ⟨g, 0, none⟩))) := fun V h => h.cell hcb hbx
  have HBX := Lib.hid hbx
  have HS := Lib.hid hS
  have HND := Lib.hid hnd
  have HJ := Lib.hid hJ
  have HY := Lib.hid hY
  have HB0 := Lib.hid hb0
  have H0 := Lib.hid h0
  have hbW := cell_below hb0 hbx
  obtain ⟨AW, cW, AC, cC, AT, cT, hg, hB, oW, oC, oT⟩ := hS.open
  have HGX : Hid (∀ V, BelowX cx w.heap.size w V → V.heap[g]? = some (.cells #[.int .i64 x.nodes, .int .i64 x.now, .int .i64 x.next, .slice AW x.way.length cW, .slice AC x.cuts.length cC, .slice AT x.timers.length cT] 109 (0, 0))) := fun V h => h.block hcg hg
  have hcW := hcr 3 _ (by rw [bl_cell hg 3]; rfl)
  have HG := Lib.hid hg
  have hgW := bl_below hg hb0
  have k4 := bl_cell hgW 4
  have k3 := bl_cell hgW 3
  simp at k4 k3
  have hlt := bl_lt hgW
  have hltb := World.block_lt_of_cell? W _ hbW
  simp only at hltb
  have HRC : Hid (Rd w AC x.cuts) := by
    obtain ⟨A, c, e, _, h⟩ := oC.slice
    cases e
    exact h
  have HRW : Hid (Rd w AW x.way) := by
    obtain ⟨A, c, e, _, h⟩ := oW.slice
    cases e
    exact h
  have HRC2 : Hid (Rd W AC x.cuts) := HRC.out.below hb0
  have HRWX : Hid (∀ V, BelowX cx w.heap.size w V → Rd V AW x.way) := fun V h => (oW.belowX h hcW).rd
  clear hbx hS hnd hJ hY hb0 h0 hg hgW oW oC oT HRC hcW hcr
  refine callsIn_of_wp Tryz.func94 rfl trivial ?_ rfl
  simp only [Tryz.ntmps94, List.size_toArray, List.length_cons, List.length_nil, Nat.reduceAdd, Nat.reduceSub, Array.replicate_succ, Array.replicate_zero, List.push_toArray, List.append_toArray, List.nil_append, List.cons_append]
  have hmm := @run_makeMap Tryz.prog
  gi_wp2
  have hB1 : Hid (Below W.heap.size W (W.alloc (.map #[] 0))) := below_alloc (Below.refl _ _) _
  have hS1 : Hid (IsSet (W.alloc (.map #[] 0)) W.heap.size []) := IsSet.new W
  have hJ1 : Hid (J [] (W.alloc (.map #[] 0))) := ab_below HJ.out H0.out (below_alloc (Below.refl _ _) _)
  gi_loopw [15] (fun i wr => ∃ k : Nat, k ≤ x.cuts.length ∧ i = .int .i64 (k : Int) ∧ Hid (IsSet wr W.heap.size ((x.cuts.take k).map prL)) ∧ Hid (Below W.heap.size W wr) ∧ Hid (J [] wr)) (fun i _ => x.cuts.length - (intOf i).toNat)
  case atStart => exact ⟨0, Nat.zero_le _, rfl, hS1.out, hB1.out, hJ1.out⟩
  case round =>
    clear hS1 hB1 hJ1 k4 k3 hbW
    obtain ⟨k, hk, rfl, hS, hB1, hJ1⟩ := hrel
    by_cases hkl : k < x.cuts.length
    · obtain ⟨b, off, c, rfl, hx, c0, c1⟩ := (HRC2.out.below hB1.out).lk k hkl
      have hbl := World.block_lt_of_cell? wr _ c0
      simp only at hbl
      have hset : Hid (IsSet (wr.alloc (.cells #[.int .i64 c.a, .int .i64 c.b] 96)) W.heap.size ((x.cuts.take k).map prL)) := hS.out.alloc _
      have hnm : (c.a, c.b) ∉ (x.cuts.take k).map prL := by
        have h1 := HND.out
        obtain ⟨hkx, hce⟩ := List.getElem?_eq_some_iff.1 hx.out
        rw [← List.take_append_drop k x.cuts, List.map_append, List.nodup_append] at h1
        intro hm
        refine h1.2.2 _ hm _ ?_ rfl
        rw [List.drop_eq_getElem_cons hkx, hce]
        exact List.mem_cons_self ..
      obtain ⟨w3, hu, hs3, hg3⟩ := link_insert _ W.heap.size _ c.a c.b hset.out hnm
      have HS3 := Lib.hid hs3
      have HG3 := Lib.hid hg3
      clear hnm hs3 hg3
      have hltm : W.heap.size < wr.heap.size := hS.out.lt
      gi_wp2
      go_roundw
      case rel =>
        refine ⟨k + 1, by omega, by go_num, ?_, ?_, ?_⟩
        · show IsSet _ _ _
          have h2 : (x.cuts.take (k + 1)).map prL = (x.cuts.take k).map prL ++ [(c.a, c.b)] := by rw [List.take_add_one, hx.out]; simp [prL]
          rw [h2]; exact HS3.out
        · show Below _ _ _
          have h3 := below_alloc hB1.out (.cells #[.int .i64 c.a, .int .i64 c.b] 96)
          exact h3.grown HG3.out h3.size (fun j e => by cases e; exact Nat.le_refl _)
        · show J [] _
          have h4 := ab_below HJ.out hJ1.out (below_alloc (Below.refl _ wr) (.cells #[.int .i64 c.a, .int .i64 c.b] 96))
          refine HJ.out _ _ _ _ h4 HG3.out (fun r e => ?_)
          cases e
          obtain ⟨es, clock, hb, -⟩ := hset.out
          exact ⟨Nat.le_refl _, _, hb, rfl⟩
      case measure => simp [intOf]; omega
    · obtain rfl : k = x.cuts.length := by omega
      rw [List.take_length] at hS
      have hbr := cell_below hB1.out (cell_below HB0.out HBX.out)
      have hbw : w.heap.size ≤ W.heap.size := HB0.out.size
      have hBr : Hid (BelowX cx w.heap.size w wr) := BelowX.of (HB0.out.trans (hB1.out.mono hbw))
      have k3 := bl_cell (HGX.out _ hBr.out) 3
      simp at k3
      have hl2 := bl_lt (HGX.out _ hBr.out)
      clear HRC2
      gi_wp2
      gi_loopw [28] (fun i wq => ∃ k : Nat, k ≤ x.way.length ∧ i = .int .i64 (k : Int) ∧ Hid (IsSet wq W.heap.size (x.cuts.map prL)) ∧ Hid (BelowX cx w.heap.size w wq) ∧ Hid (J (rdyTo x k) wq)) (fun i _ => x.way.length - (intOf i).toNat)
      case atStart => exact ⟨0, Nat.zero_le _, rfl, hS.out, hBr.out, hJ1.out⟩
      case round =>
        clear hBr k3 hl2 hS hB1 hJ1 hbr
        obtain ⟨k, hk, rfl, hS, hBq, hJq⟩ := hrel
        by_cases hkl : k < x.way.length
        · obtain ⟨b, off, lt, rfl, hx, c0, c1, c2, c3, c4⟩ := (HRWX.out _ hBq.out).lt k hkl
          have hbl := World.block_lt_of_cell? wr _ c0
          simp only at hbl
          gi_wp2
          obtain ⟨Wl, hWl⟩ : ∃ Wl, Wl = wr.alloc (.cells #[.int .i64 lt.id, .int .i64 lt.fr, .int .i64 lt.to, .int .i64 lt.rd, .string lt.data] 33) := ⟨_, rfl⟩
          rw [← hWl]
          have hBl : Hid (Below wr.heap.size wr Wl) := by rw [hWl]; exact below_alloc (Below.refl _ _) _
          have hlb : Wl.heap[wr.heap.size]? = some (.cells #[.int .i64 lt.id, .int .i64 lt.fr, .int .i64 lt.to, .int .i64 lt.rd, .string lt.data] 33 (0, 0)) := by rw [hWl]; exact bl_new _ _
          have hBwl : Hid (BelowX cx w.heap.size w Wl) := hBq.out.trans (BelowX.of (hBl.out.mono hBq.out.size))
          have hSl : Hid (IsSet Wl W.heap.size (x.cuts.map prL)) := hS.out.below hBl.out
          have hJl : Hid (J (rdyTo x k) Wl) := ab_below HJ.out hJq.out hBl.out
          have e1 := bl_cell hlb 1
          have e2 := bl_cell hlb 2
          have e3 := bl_cell hlb 3
          simp at e1 e2 e3
          have hll := bl_lt hlb
          have kb := HBXX.out _ hBwl.out
          have kbl := World.block_lt_of_cell? Wl _ kb
          simp only at kbl
          have kg := bl_cell (HGX.out _ hBwl.out) 1
          simp at kg
          have kgl := bl_lt (HGX.out _ hBwl.out)
          generalize wr.heap.size = bx2 at *
          clear hWl hlb c0 c1 c2 c3 c4 hbl
          by_cases hrd : lt.rd ≤ x.now
          · have hd : decide (lt.rd ≤ x.now) = true := decide_eq_true hrd
            have HRD := Lib.hid hrd
            clear hrd
            refine wpIn_mix [(0, true), (1, true), (2, true), (3, true), (4, true), (5, true), (6, true), (7, true), (8, true), (9, true), (10, true), (11, true), (12, true), (13, true), (14, false), (15, true), (16, true), (17, true), (18, true), (19, true), (20, true)] 21
              (fun w' => Below Wl.heap.size Wl w')
              (by kernel_rfl) (by kernel_rfl) (by kernel_rfl) (by kernel_rfl) (by kernel_rfl) (fun d _ _ _ _ h => by cases d <;> exact h) (Below.refl _ _).drew ?_
            simp only [pick, List.map_cons, List.map_nil, List.getD_cons_zero, List.getD_cons_succ, List.drop_succ_cons, List.drop_zero]
            iterate 14
              apply mixIn_take
              case hw => rfl
              case hy => intro W' hW; obtain ⟨hwc, -⟩ := bcell hW; go_simp; try rfl
              simp only [Act.put, List.setIfInBounds_toArray, List.set_cons_zero, List.set_cons_succ]
            refine mixIn_do fun K' hK' => ?_
            gi_wp2_with fail
            refine ⟨trivial, fun h => absurd h (by simp [Fence.wide]), callsIn_below (link_any lt.fr lt.to _) ?_⟩
            intro w2 hb2
            have hb2' : Below Wl.heap.size Wl w2 := below_trans (Below.refl _ Wl).drew hb2
            gi_wp2
            refine hK' _ _ hb2' ?_
            clear hK' K'
            have HB2 := Lib.hid hb2'
            have hJ2 : Hid (J (rdyTo x k) w2) := ab_below HJ.out hJl.out hb2'
            have hS2 : Hid (IsSet w2 W.heap.size (x.cuts.map prL)) := hSl.out.below hb2'
            have hBw2 : Hid (BelowX cx w.heap.size w w2) := hBwl.out.trans (BelowX.of (hb2'.mono hBwl.out.size))
            clear hb2 hb2'
            by_cases hm : ((mkLk lt.fr lt.to).a, (mkLk lt.fr lt.to).b) ∈ x.cuts.map prL
            · have hmd : decide (((mkLk lt.fr lt.to).a, (mkLk lt.fr lt.to).b) ∈ x.cuts.map prL) = true := decide_eq_true hm
              have HM := Lib.hid hmd
              clear hm hmd
              iterate 4
                apply mixIn_take
                case hw => rfl
                case hy => intro W' hW; have hlk := link_lookup W' W.heap.size _ (mkLk lt.fr lt.to).a (mkLk lt.fr lt.to).b (hSl.out.below hW); rw [HM.out] at hlk; obtain ⟨hwc, -⟩ := bcell hW; go_simp; try rfl
                simp only [Act.put, List.setIfInBounds_toArray, List.set_cons_zero, List.set_cons_succ]
              iterate 2
                apply mixIn_skip
                case hw => simp [Region.wanted, yielded, *]
                simp only [Act.put, List.setIfInBounds_toArray, List.set_cons_zero, List.set_cons_succ]
              refine mixIn_nil ?_
              gi_wp2
              refine ⟨fun _ h => (by cases h), ?_⟩
              gi_wp2
              go_roundw
              case rel =>
                refine ⟨k + 1, by omega, by go_num, hS2.out, hBw2.out, ?_⟩
                show J _ _
                have hci : canI x k = false := by unfold canI; rw [hx.out]; show canB x lt = false; unfold canB; rw [HM.out]; simp
                rw [rdyTo_succ, hci]
                exact hJ2.out
              case measure => simp [intOf]; omega
            · have hmd : decide (((mkLk lt.fr lt.to).a, (mkLk lt.fr lt.to).b) ∈ x.cuts.map prL) = false := decide_eq_false hm
              have HM := Lib.hid hmd
              have hci : Hid (canI x k = true) := by
                show _ = _
                unfold canI; rw [hx.out]; show canB x lt = true; unfold canB; rw [hmd, decide_eq_true HRD.out]; rfl
              clear hm hmd
              iterate 6
                apply mixIn_take
                case hw => rfl
                case hy => intro W' hW; have hlk := link_lookup W' W.heap.size _ (mkLk lt.fr lt.to).a (mkLk lt.fr lt.to).b (hSl.out.below hW); rw [HM.out] at hlk; obtain ⟨hwc, -⟩ := bcell hW; go_simp; try rfl
                simp only [Act.put, List.setIfInBounds_toArray, List.set_cons_zero, List.set_cons_succ]
              refine mixIn_nil ?_
              have hlen : (rdyTo x k).length < (rdyF x).length := by
                have h1 := (rdyTo_pre x (k + 1) x.way.length (by omega)).length_le
                rw [rdyTo_succ, hci.out] at h1
                simp at h1
                exact h1
              obtain ⟨fn, tmps, assign, body, hy, hR⟩ := HY.out (rdyTo x k) k w2 hJ2.out hlen (rdy_mem hci.out hkl)
              gi_wp2
              refine ⟨fun h => absurd h (by simp [Fence.wide]), hR.mono ?_⟩
              rintro e W3 (⟨rfl, hJ3, hk3⟩ | ⟨rfl, hJx3⟩)
              · gi_wp2
                go_roundw
                case rel =>
                  refine ⟨k + 1, by omega, by go_num, hS2.out.walks hk3.2, hBw2.out.trans hk3.1, ?_⟩
                  show J _ _
                  rw [rdyTo_succ, hci.out]
                  exact hJ3
                case measure => simp [intOf]; omega
              · have hpf : rdyTo x k ++ [k] <+: rdyF x := by
                  have h1 := rdyTo_pre x (k + 1) x.way.length (by omega)
                  rw [rdyTo_succ, hci.out] at h1
                  exact h1
                have HPF := Lib.hid hpf
                clear hpf
                gi_wp2
                refine bodyPost_ret (results_none rfl _ _ _) rfl ?_
                exact ⟨⟨_, rfl⟩, .inr ⟨rdyTo x k ++ [k], HPF.out, hJx3⟩⟩
          · have hd : decide (lt.rd ≤ x.now) = false := decide_eq_false hrd
            have HRD := Lib.hid hrd
            clear hrd
            refine wpIn_mix [(0, true), (1, true), (2, true), (3, true), (4, true), (5, true), (6, true), (7, true), (8, true), (9, true), (10, true), (11, true), (12, true), (13, true), (14, true), (15, true), (16, true), (17, true), (18, true), (19, true), (20, true)] 21
              (fun w' => Below Wl.heap.size Wl w')
              (by kernel_rfl) (by kernel_rfl) (by kernel_rfl) (by kernel_rfl) (by kernel_rfl) (fun d _ _ _ _ h => by cases d <;> exact h) (Below.refl _ _).drew ?_
            simp only [pick, List.map_cons, List.map_nil, List.getD_cons_zero, List.getD_cons_succ, List.drop_succ_cons, List.drop_zero]
            iterate 9
              apply mixIn_take
              case hw => rfl
              case hy => intro W' hW; obtain ⟨hwc, -⟩ := bcell hW; go_simp; try rfl
              simp only [Act.put, List.setIfInBounds_toArray, List.set_cons_zero, List.set_cons_succ]
            iterate 8
              apply mixIn_skip
              case hw => simp [Region.wanted, yielded, *]
              simp only [Act.put, List.setIfInBounds_toArray, List.set_cons_zero, List.set_cons_succ]
            iterate 2
              apply mixIn_take
              case hw => rfl
              case hy => intro W' hW; obtain ⟨hwc, -⟩ := bcell hW; go_simp; try rfl
              simp only [Act.put, List.setIfInBounds_toArray, List.set_cons_zero, List.set_cons_succ]
            iterate 2
              apply mixIn_skip
              case hw => simp [Region.wanted, yielded, *]
              simp only [Act.put, List.setIfInBounds_toArray, List.set_cons_zero, List.set_cons_succ]
            refine mixIn_nil ?_
            gi_wp2
            refine ⟨fun _ h => (by cases h), ?_⟩
            gi_wp2
            go_roundw
            case rel =>
              refine ⟨k + 1, by omega, by go_num, hSl.out, hBwl.out.drew, ?_⟩
              show J _ _
              have hci : canI x k = false := by unfold canI; rw [hx.out]; show canB x lt = false; unfold canB; rw [decide_eq_false (by have := HRD.out; omega)]; rfl
              rw [rdyTo_succ, hci]
              exact ab_below HJ.out hJl.out (Below.refl _ _).drew
            case measure => simp [intOf]; omega
        · obtain rfl : k = x.way.length := by omega
          gi_wp2
          go_end0
          exact ⟨⟨_, rfl⟩, .inl ⟨rdyF x, rfl, hJq.out⟩⟩

/-- .. over the places that are ready, and no others. -/
theorem ready_stopsS (n bx g B c : Nat) (x : Nt) (w : World) (hbx : w.cell? ⟨bx, 0, none⟩ = some (.pointer (some ⟨g, 0, none⟩))) (hS : St w B g x) (hcb : bx ≠ c) (hcg : g ≠ c) (hcr : ∀ j v, w.cell? ⟨g, j, none⟩ = some v → v.ownBlock ≠ some c) (hnd : (x.cuts.map prL).Nodup) (hlw : x.way.length ≤ 10000000) (hlc : x.cuts.length ≤ 10000000) :
    SeqStopsK Fence.wide n Tryz.prog 94 #[.pointer (some ⟨bx, 0, none⟩)] (fun k : { k : Nat // k ∈ rdyF x } => #[.int .i64 (k.1 : Int)]) (KptX c w.heap.size) (fun xs => xs.map (·.1) = rdyF x) (fun pre => pre.map (·.1) <+: rdyF x) (rdyF x).length w := by
  intro l J Jx W hb hJ _ hY h0
  refine CallsIn.mono (ready1_inX n l bx g B c x w hbx hS hcb hcg hcr hnd hlw hlc (fun p V => ∃ q : List { k : Nat // k ∈ rdyF x }, q.map (·.1) = p ∧ J q V) (fun p V => ∃ q : List { k : Nat // k ∈ rdyF x }, q.map (·.1) = p ∧ Jx q V) W hb
    (fun p A B row h hg hr => by obtain ⟨q, hq, hj⟩ := h; exact ⟨q, hq, hJ q A B row hj hg hr⟩) ?_ ⟨[], rfl, h0⟩) ?_
  · rintro pre k W1 ⟨q, rfl, hj⟩ hlen hk
    refine (hY q ⟨k, hk⟩ W1 hj (by simpa using hlen)).mono ?_
    rintro e W' (⟨rfl, h1, h2⟩ | ⟨rfl, h1⟩)
    · exact .inl ⟨rfl, ⟨q ++ [⟨k, hk⟩], by simp, h1⟩, h2⟩
    · exact .inr ⟨rfl, ⟨q ++ [⟨k, hk⟩], by simp, h1⟩⟩
  · rintro e W' ⟨hv, ⟨xs, rfl, q, hq, hj⟩ | ⟨pre, hp, q, rfl, hj⟩⟩
    · exact ⟨hv, .inl ⟨q, hq, hj⟩⟩
    · exact ⟨hv, .inr ⟨q, hp, hj⟩⟩
end Go.Proofs.YthlbmcfliejdiaaGreat
end

section
set_option linter.unusedVariables false
set_option linter.unusedSimpArgs false
namespace Go.Proofs.YthlbmcfliejdiaaGreat
open Go.RowKit Go.Shelf
attribute [local go_sem] Oper.semAt_some

theorem wpListIn_app {α : Type} [Enc α] {F : Fence} {n : Nat} {P : Program} {ops : Array Oper} {rest : List Oper} {o : Oper} {a : Act} {Q : Exit → Act → World → Prop} (W : World) (base : Nat) (hgd : o.guard = none) (s x : Operand) (t e : TypeId) (z : Value) (bytes : Nat)
    (ho : o.op = .call { callee := .builtin .append, args := #[s, x], argTypes := #[t, t] })
    (ht : P.underlying t = some (.slice e)) (hinfo : (P.info? e).map (fun i => (i.zero, i.size, i.bytes)) = some (some z, Enc.sz α, bytes)) (hz : z.cells.size = Enc.sz α) (hs0 : 0 < Enc.sz α) (hb0 : 0 < bytes)
    (v : Value) (xs ys : List α) (A : Option Addr) (c : Nat) (hs : a.eval s = v) (hx : a.eval x = .slice A ys.length c) (HO : Own W base e v xs) (HR : Rd W A ys) (hbase : base ≤ W.heap.size) (hl : (xs.length + ys.length) * bytes ≤ 140737488355328)
    (h : ∀ v1 w1, Own w1 base e v1 (xs ++ ys) → W.grownBy w1 v.ownBlock → (v1.ownBlock = v.ownBlock ∨ v1.ownBlock = some W.heap.size) → wpListIn F n P ops Q rest (a.put o.dst v1) w1) :
    wpListIn F n P ops Q (o :: rest) a W := by
  obtain ⟨v1, w1, hr, h1, h2, h3⟩ := run_app (P := P) W base t o.type e z bytes ht hinfo hz hs0 hb0 v xs ys A c HO HR hbase hl
  refine wpListIn_plain hgd fun K hK => ?_
  unfold Oper.wpIn
  refine ⟨?_, ?_⟩
  · simp [Oper.about, ho, resolve, Target.leads, Sem.run_pure]
  · rw [Oper.semAt_plain F _ _ (by rw [ho]; intro c hc'; cases hc')]
    simp [execOp, ho, resolve, invoke, builtin, hs, hx, hr, Result.andThen]
    exact hK _ _ (h v1 w1 h1 h2 h3)

theorem wpIn_scopeW {n : Nat} {P : Program} {c : Code} {Q : Exit → Act → World → Prop} {a : Act} {w : World} (h : c.wpIn Fence.wide n P (Exit.noGoto Q) a w) : (Code.scope c).wpIn Fence.wide n P Q a w :=
  wpIn_wide.2 (wp_scope_straight (wpIn_wide.1 h))
/-- The walk stops here. -/
theorem stop_here {p : Prop} (h : Hid p) : p := h
theorem bl_newZ {w : World} {o : Obj} {n : Nat} (h : w.heap.size = n) : (w.alloc o).heap[n]? = some o := h ▸ bl_new w o

/-! States with marks. -/
def stD (n : Nat) (f : Nat → Value) (ds : List Deferred) : Act := ⟨((List.range n).map f).toArray, ds⟩
theorem stD_of {l : List Value} {ds : List Deferred} (n : Nat) (h : l.length = n) : (⟨l.toArray, ds⟩ : Act) = stD n (fun i => l.getD i undef) ds := by
  have := st_of n h
  unfold st at this
  unfold stD
  simp only [Act.mk.injEq, and_true] at this ⊢
  exact this
theorem stD_getD {n i : Nat} {f : Nat → Value} {ds : List Deferred} (h : i < n) : (stD n f ds).tmps.getD i undef = f i := st_getD h
def Marks (Ds : List Nat) : List Deferred := Ds.map fun D => { target := .collected D, args := #[] }
theorem leaves_marks {F : Fence} {n m : Nat} {P : Program} {fn : Func} {tmps : Array Value} {R : Ending → World → Prop} {C : World → Prop} {v : Value} (hC : ∀ W D, C W → W.heap[D]? = some (.deferred (some [])) → m ≤ D → C (W.putObj D (.deferred none)))
    (hend : ∀ W, C W → (results fn tmps).run P W = .ok v W ∧ R (.returned v) W) : ∀ (Ds : List Nat) (W : World), C W → Ds.Nodup → (∀ D ∈ Ds, m ≤ D ∧ W.heap[D]? = some (.deferred (some []))) → LeavesInM F n P fn tmps R (Marks Ds) .returning W
  | [], W, h, _, _ => ⟨v, hend W h⟩
  | D :: r, W, h, hn, hd => by
    obtain ⟨h1, h2⟩ := hd D (by simp)
    rw [List.nodup_cons] at hn
    refine ⟨by simp, .inl ⟨D, _, rfl, run_takeDeferred h2, leaves_marks hC hend r _ (hC _ _ h h2 h1) hn.2 (fun E hE => ?_)⟩⟩
    obtain ⟨h3, h4⟩ := hd E (by simp [hE])
    refine ⟨h3, ?_⟩
    have hne : E ≠ D := fun e => hn.1 (e ▸ hE)
    exact (World.putObj_heap_other hne).trans h4

/-! What is kept. -/
theorem Own.cellsAt {α : Type} [Enc α] {w : World} {B : Nat} {e : TypeId} {v : Value} {xs : List α} (h : Own w B e v xs) {b : Nat} (hb : v.ownBlock = some b) : ∃ c t f, w.heap[b]? = some (.cells c t f) := by
  rcases h.2 with ⟨rfl, _⟩ | ⟨g', cap, cur, rfl, _, hh, _⟩
  · simp [Value.ownBlock] at hb
  · simp only [Value.ownBlock, Option.some.injEq] at hb
    subst hb
    exact ⟨_, _, _, hh⟩
theorem Own.blk {α : Type} [Enc α] {w W : World} {B : Nat} {e : TypeId} {v : Value} {xs : List α} (h : Own w B e v xs) (hb : ∀ b, v.ownBlock = some b → W.heap[b]? = w.heap[b]?) : Own W B e v xs := by
  refine ⟨h.1, ?_⟩
  rcases h.2 with hn | ⟨g, cap, cur, rfl, hg, hh, rest⟩
  · exact .inl hn
  · exact .inr ⟨g, cap, cur, rfl, hg, (hb g rfl).trans hh, rest⟩
theorem Free.other {w : World} {B g D : Nat} {x : Nt} {o : Obj} (h : St w B g x) (hD : w.heap[D]? = some o) (ho : o.isCells = false) : Free w g D := by
  obtain ⟨vW, vC, vT, hg, hB, oW, oC, oT⟩ := h
  have hno : ∀ {c : Array Value} {t : TypeId} {f : Nat × Nat} {b : Nat}, w.heap[b]? = some (.cells c t f) → b ≠ D := fun hb e => by
    rw [e, hD] at hb; cases hb; cases ho
  refine ⟨bl_lt hD, (hno hg).symm, fun j v hv => ?_⟩
  rw [bl_cell hg j] at hv
  match j, hv with
  | 0, hv => cases hv; simp [Value.ownBlock]
  | 1, hv => cases hv; simp [Value.ownBlock]
  | 2, hv => cases hv; simp [Value.ownBlock]
  | 3, hv => cases hv; exact fun e => by obtain ⟨c, t, f, hc⟩ := oW.cellsAt e; exact hno hc rfl
  | 4, hv => cases hv; exact fun e => by obtain ⟨c, t, f, hc⟩ := oC.cellsAt e; exact hno hc rfl
  | 5, hv => cases hv; exact fun e => by obtain ⟨c, t, f, hc⟩ := oT.cellsAt e; exact hno hc rfl
  | (j + 6), hv => simp at hv
theorem Free.fresh {w W : World} {B g : Nat} {x : Nt} (h : St w B g x) {row : Option Nat} (hg : w.grownBy W row) (hr : ∀ r, row = some r → r ≠ g) {b : Nat} (hb : b = w.heap.size) (hbW : b < W.heap.size) : Free W g b := by
  have hlt := h.lt
  have h1 := Free.new h (.cells #[] 0)
  have e1 : W.heap[g]? = w.heap[g]? := hg.block g hlt (fun e => hr g e.symm rfl)
  have e2 : (w.alloc (.cells #[] 0)).heap[g]? = w.heap[g]? := Below.heap_alloc w _ g hlt
  refine ⟨hbW, by omega, fun j v hv => ?_⟩
  rw [hb]
  refine h1.2.2 j v ?_
  rw [World.cell?_of_block (e2.trans e1.symm)]
  exact hv
theorem Free.grown {w W : World} {g b : Nat} {row : Option Nat} (h : Free w g b) (hlt : g < w.heap.size) (hg : w.grownBy W row) (hr : ∀ r, row = some r → r ≠ g) : Free W g b := by
  have e1 : W.heap[g]? = w.heap[g]? := hg.block g hlt (fun e => hr g e.symm rfl)
  refine ⟨Nat.lt_of_lt_of_le h.1 hg.size, h.2.1, fun j v hv => h.2.2 j v ?_⟩
  rw [← World.cell?_of_block e1]; exact hv
theorem St.grown {w W : World} {B g : Nat} {x : Nt} {row : Option Nat} (h : St w B g x) (hg : w.grownBy W row) (hr : ∀ r, row = some r → Free w g r) : St W B g x := by
  have hlt := h.lt
  obtain ⟨vW, vC, vT, hgg, hB, oW, oC, oT⟩ := h
  have hno : ∀ j v, w.cell? ⟨g, j, none⟩ = some v → v.ownBlock = none ∨ v.ownBlock ≠ row := fun j v hv => by
    cases hrow : row with
    | none => cases v.ownBlock <;> simp
    | some r => exact .inr ((hr r hrow).2.2 j v hv)
  refine ⟨vW, vC, vT, ?_, hB, oW.kept hg (hno 3 _ (by rw [bl_cell hgg 3]; rfl)), oC.kept hg (hno 4 _ (by rw [bl_cell hgg 4]; rfl)), oT.kept hg (hno 5 _ (by rw [bl_cell hgg 5]; rfl))⟩
  exact (hg.block g hlt (fun e => (hr g e.symm).2.1 rfl)).trans hgg

/-- Calm's state: the network at g; the letters and the timers in rows of their own; the marks. -/
structure CalmS (w2 : World) (g : Nat) (y : Nt) (L : List Lt) (T : List Tm) (u10 u11 : Value) (Ds : List Nat) (W : World) : Prop where
  st : St W w2.heap.size g y
  ol : Own W w2.heap.size 33 u10 L
  ot : Own W w2.heap.size 86 u11 T
  fl : ∀ b, u10.ownBlock = some b → Free W g b
  ft : ∀ b, u11.ownBlock = some b → Free W g b
  bw : Below w2.heap.size w2 W
  nd : Ds.Nodup
  ms : ∀ D ∈ Ds, w2.heap.size ≤ D ∧ W.heap[D]? = some (.deferred (some []))
section
variable {w2 W W' : World} {g : Nat} {y : Nt} {L : List Lt} {T : List Tm} {u10 u11 : Value} {Ds : List Nat}
theorem CalmS.below (h : CalmS w2 g y L T u10 u11 Ds W) (hb : Below W.heap.size W W') : CalmS w2 g y L T u10 u11 Ds W' := by
  have hlt := h.st.lt
  exact ⟨h.st.below hb, h.ol.below hb, h.ot.below hb, fun b e => (h.fl b e).below hlt hb, fun b e => (h.ft b e).below hlt hb, h.bw.trans (hb.mono h.bw.size), h.nd, fun D hD => ⟨(h.ms D hD).1, bl_below (h.ms D hD).2 hb⟩⟩
theorem CalmS.frm (h : CalmS w2 g y L T u10 u11 Ds W) {y' : Nt} (hS : St W' w2.heap.size g y') (hB : Below w2.heap.size W W') (hF : Frm W W' g) : CalmS w2 g y' L T u10 u11 Ds W' :=
  ⟨hS, h.ol.blk (fun b e => (hF b (h.fl b e)).1), h.ot.blk (fun b e => (hF b (h.ft b e)).1), fun b e => (hF b (h.fl b e)).2, fun b e => (hF b (h.ft b e)).2, h.bw.trans hB, h.nd,
    fun D hD => ⟨(h.ms D hD).1, (hF D (Free.other h.st (h.ms D hD).2 rfl)).1.trans (h.ms D hD).2⟩⟩
theorem CalmS.mth (h : CalmS w2 g y L T u10 u11 Ds W) {r : Rs} (hm : mthW w2.heap.size g W r W') (he : r.e = 0) : CalmS w2 g r.x L T u10 u11 Ds W' := by
  rcases hm with ⟨h1, -⟩ | ⟨-, h2, h3, h4⟩
  · exact absurd he h1
  · exact h.frm h2 h3 h4
theorem CalmS.letters (h : CalmS w2 g y L T u10 u11 Ds W) {v1 : Value} {L1 : List Lt} (ho : Own W' w2.heap.size 33 v1 L1) (hg : W.grownBy W' u10.ownBlock) (hat : v1.ownBlock = u10.ownBlock ∨ v1.ownBlock = some W.heap.size) : CalmS w2 g y L1 T v1 u11 Ds W' := by
  have hlt := h.st.lt
  have hne : ∀ r, u10.ownBlock = some r → r ≠ g := fun r e => (h.fl r e).2.1
  refine ⟨h.st.grown hg h.fl, ho, h.ot.kept hg (h.ot.ne_own h.ol (by decide)), fun b e => ?_, fun b e => (h.ft b e).grown hlt hg hne, h.bw.grown hg h.bw.size (fun k hk => (h.ol.lt k hk).1), h.nd, fun D hD => ⟨(h.ms D hD).1, ?_⟩⟩
  · rcases hat with hat | hat
    · exact (h.fl b (hat.symm.trans e)).grown hlt hg hne
    · exact Free.fresh h.st hg hne (Option.some.inj (e.symm.trans hat)) (ho.lt b e).2
  · refine (hg.block D (bl_lt (h.ms D hD).2) (fun e => ?_)).trans (h.ms D hD).2
    obtain ⟨c, t, f, hc⟩ := h.ol.cellsAt e.symm
    rw [(h.ms D hD).2] at hc; cases hc
theorem CalmS.timers (h : CalmS w2 g y L T u10 u11 Ds W) {v1 : Value} {T1 : List Tm} (ho : Own W' w2.heap.size 86 v1 T1) (hg : W.grownBy W' u11.ownBlock) (hat : v1.ownBlock = u11.ownBlock ∨ v1.ownBlock = some W.heap.size) : CalmS w2 g y L T1 u10 v1 Ds W' := by
  have hlt := h.st.lt
  have hne : ∀ r, u11.ownBlock = some r → r ≠ g := fun r e => (h.ft r e).2.1
  refine ⟨h.st.grown hg h.ft, h.ol.kept hg (h.ol.ne_own h.ot (by decide)), ho, fun b e => (h.fl b e).grown hlt hg hne, fun b e => ?_, h.bw.grown hg h.bw.size (fun k hk => (h.ot.lt k hk).1), h.nd, fun D hD => ⟨(h.ms D hD).1, ?_⟩⟩
  · rcases hat with hat | hat
    · exact (h.ft b (hat.symm.trans e)).grown hlt hg hne
    · exact Free.fresh h.st hg hne (Option.some.inj (e.symm.trans hat)) (ho.lt b e).2
  · refine (hg.block D (bl_lt (h.ms D hD).2) (fun e => ?_)).trans (h.ms D hD).2
    obtain ⟨c, t, f, hc⟩ := h.ot.cellsAt e.symm
    rw [(h.ms D hD).2] at hc; cases hc
theorem CalmS.mark (h : CalmS w2 g y L T u10 u11 Ds W) (hb : Below W.heap.size W W') {D : Nat} (hD : W.heap.size ≤ D) (hd : W'.heap[D]? = some (.deferred (some []))) : CalmS w2 g y L T u10 u11 (D :: Ds) W' := by
  have h' := h.below hb
  refine ⟨h'.st, h'.ol, h'.ot, h'.fl, h'.ft, h'.bw, List.nodup_cons.2 ⟨fun hm => ?_, h'.nd⟩, fun E hE => ?_⟩
  · have := bl_lt (h.ms D hm).2; omega
  · rcases List.mem_cons.1 hE with rfl | hE
    · exact ⟨Nat.le_trans h.bw.size hD, hd⟩
    · exact h'.ms E hE
end
end Go.Proofs.YthlbmcfliejdiaaGreat
end

section
set_option linter.unusedVariables false
set_option linter.unusedSimpArgs false
namespace Go.Proofs.YthlbmcfliejdiaaGreat
open Go.RowKit Go.Shelf
attribute [local go_sem] Oper.semAt_some

theorem kept_netO {W W' : World} {row : Option Nat} {B : Nat} {v : Value} {x : Nt} (h : NetO W B v x) (hg : W.grownBy W' row) (hr : ∀ r, row = some r → ∃ o : Obj, W.heap[r]? = some o ∧ o.isCells = false) : NetO W' B v x := by
  obtain ⟨AW, cW, AC, cC, AT, cT, rfl, hW, hC, hT⟩ := h
  exact ⟨AW, cW, AC, cC, AT, cT, rfl, kept_own hW hg hr, kept_own hC hg hr, kept_own hT hg hr⟩
/-- Four results: a struct that lies in memory, three values. -/
theorem res_cttt {P : Program} {fn : Func} {tmps : Array Value} {w : World} {p u1 u2 u3 : Tmp} {ty : TypeId} {v1 v2 v3 : Value} (h : fn.results = #[.cell p ty, .tmp u1, .tmp u2, .tmp u3]) (g : Nat) (t : TypeId) (cs : Array Value) (d : TypeDesc) (hp : tmps.getD p undef = .pointer (some ⟨g, 0, none⟩)) (hg : w.heap[g]? = some (.cells cs t (0, 0)))
    (hu : P.underlying ty = some d) (hd : (match d with | .struct _ | .array _ _ => true | _ => false) = true) (hi : (P.info? ty).map (·.size) = some cs.size) (h1 : tmps.getD u1 undef = v1) (h2 : tmps.getD u2 undef = v2) (h3 : tmps.getD u3 undef = v3) :
    (results fn tmps).run P w = .ok (.tuple #[.agg cs, v1, v2, v3]) w := by
  have hp' : tmps[p]?.getD undef = .pointer (some ⟨g, 0, none⟩) := by simpa using hp
  have e1 : tmps[u1]?.getD undef = v1 := by simpa using h1
  have e2 : tmps[u2]?.getD undef = v2 := by simpa using h2
  have e3 : tmps[u3]?.getD undef = v3 := by simpa using h3
  simp [results, h, hp', e1, e2, e3, asAddr, run_loadVar_row w g t ty cs (0, 0) d hg hu hd hi]
def firstLp : Code → Option Code
  | .loop c => some c
  | .seq a b => match firstLp a with
    | some c => some c
    | none => firstLp b
  | .block _ c => firstLp c
  | .scope c => firstLp c
  | .cond _ a b => match firstLp a with
    | some c => some c
    | none => firstLp b
  | _ => none
noncomputable def calmOut : Code := ((Tryz.f27.body.bind firstLp).getD .skip)
noncomputable def calmInn : Code := ((firstLp calmOut).getD .skip)
set_option maxRecDepth 100000 in
theorem stD_all (f : Nat → Value) (ds : List Deferred) : stD 84 f ds = ⟨#[f 0, f 1, f 2, f 3, f 4, f 5, f 6, f 7, f 8, f 9, f 10, f 11, f 12, f 13, f 14, f 15, f 16, f 17, f 18, f 19, f 20, f 21, f 22, f 23, f 24, f 25, f 26, f 27, f 28, f 29, f 30, f 31, f 32, f 33, f 34, f 35, f 36, f 37, f 38, f 39, f 40, f 41, f 42, f 43, f 44, f 45, f 46, f 47, f 48, f 49, f 50, f 51, f 52, f 53, f 54, f 55, f 56, f 57, f 58, f 59, f 60, f 61, f 62, f 63, f 64, f 65, f 66, f 67, f 68, f 69, f 70, f 71, f 72, f 73, f 74, f 75, f 76, f 77, f 78, f 79, f 80, f 81, f 82, f 83], ds⟩ := by
  have h : List.range 84 = [0, 1, 2, 3, 4, 5, 6, 7, 8, 9, 10, 11, 12, 13, 14, 15, 16, 17, 18, 19, 20, 21, 22, 23, 24, 25, 26, 27, 28, 29, 30, 31, 32, 33, 34, 35, 36, 37, 38, 39, 40, 41, 42, 43, 44, 45, 46, 47, 48, 49, 50, 51, 52, 53, 54, 55, 56, 57, 58, 59, 60, 61, 62, 63, 64, 65, 66, 67, 68, 69, 70, 71, 72, 73, 74, 75, 76, 77, 78, 79, 80, 81, 82, 83] := by decide +kernel
  unfold stD
  rw [h]
  rfl
/-- What is known at the head of a round of the inner loop. -/
def calmI (w2 : World) (g : Nat) (x0 : Nt) (L0 : List Lt) (T : List Tm) (p4 u11 : Value) (lf : Nat) (a : Act) (W : World) : Prop :=
  ∃ f Ds y L u10, a = stD 84 f (Marks Ds) ∧ f 4 = p4 ∧ f 8 = .pointer (some ⟨g, 0, none⟩) ∧ f 10 = u10 ∧ f 11 = u11 ∧ f 12 = .int .i64 (lf : Int) ∧ Hid (CalmS w2 g y L T u10 u11 Ds W) ∧ Hid (Ok y) ∧ Hid (Dlv x0 L0 y L)
def calmMu (g : Nat) (_ : Act) (W : World) : Nat := match W.cell? ⟨g, 3, none⟩ with
  | some (.slice _ n _) => n
  | _ => 0
theorem calmMu_at {w2 : World} {g : Nat} {y : Nt} {L : List Lt} {T : List Tm} {u10 u11 : Value} {Ds : List Nat} {W : World} (h : CalmS w2 g y L T u10 u11 Ds W) (a : Act) : calmMu g a W = y.way.length := by
  obtain ⟨AW, cW, AC, cC, AT, cT, hg, -, -, -, -⟩ := h.st.open
  unfold calmMu
  rw [bl_cell hg 3]
  rfl
set_option maxHeartbeats 4000000 in
set_option maxRecDepth 100000 in
theorem calm_more (w2 : World) (g : Nat) (x0 : Nt) (L0 : List Lt) (T : List Tm) (p4 u10 u11 : Value) (lf : Nat) (f : Nat → Value) (Ds : List Nat) (y : Nt) (L : List Lt) (wr : World) (Q0 : Exit → Act → World → Prop)
    (h4 : f 4 = p4) (h8 : f 8 = .pointer (some ⟨g, 0, none⟩)) (h10 : f 10 = u10) (h11 : f 11 = u11) (h12 : f 12 = .int .i64 (lf : Int)) (hl1 : 1 ≤ lf) (hl2 : lf ≤ 1000)
    (HS : Hid (CalmS w2 g y L T u10 u11 Ds wr)) (HO : Hid (Ok y)) (HD : Hid (Dlv x0 L0 y L)) (HC : Hid (x0.cuts = [])) (hLL : L.length ≤ 1000000) (i : Nat) (r : List Nat) (HR : Hid (rdyF y = i :: r)) :
    calmInn.wpIn Fence.wide 9 Tryz.prog (Exit.then (fun a' w' => calmI w2 g x0 L0 T p4 u11 lf a' w' ∧ calmMu g a' w' < calmMu g (stD 84 f (Marks Ds)) wr) Q0) (stD 84 f (Marks Ds)) wr := by
  conv => arg 4; whnf
  have hmu := Lib.hid (calmMu_at HS.out (stD 84 f (Marks Ds)))
  rw [hmu.out]
  rw [stD_all, h4, h8, h10, h11, h12]
  clear h4 h8 h10 h11 h12
  have hgl := HS.out.st.lt
  gi_wp2_with (refine ⟨trivial, ?_⟩; gi_at_call 58; refine (callsIn_wide.2 (ready_any _ _)).mono ?_; rintro e w' ⟨rfl, rfl⟩)
  obtain ⟨W0, hW0⟩ : ∃ W0, W0 = (wr.alloc (.cells #[.int .i64 (-1)] 3)).alloc (.cells #[.pointer (some ⟨g, 0, none⟩)] 87) := ⟨_, rfl⟩
  rw [← hW0]
  have HB0 : Hid (Below wr.heap.size wr W0) := by rw [hW0]; exact below_alloc (below_alloc (Below.refl _ _) _) _
  have hsz : W0.heap.size = wr.heap.size + 2 := by rw [hW0]; simp
  have HAT : Hid (W0.heap[wr.heap.size]? = some (.cells #[.int .i64 (-1)] 3 (0, 0))) := by
    rw [hW0]; exact bl_alloc (bl_new wr _) _
  have HBX : Hid (W0.heap[wr.heap.size + 1]? = some (.cells #[.pointer (some ⟨g, 0, none⟩)] 87 (0, 0))) := by
    rw [hW0]; exact bl_newZ (by simp)
  have HS0 := Lib.hid (HS.out.below HB0.out)
  clear hW0
  have hcx : ∀ j v, W0.cell? ⟨g, j, none⟩ = some v → v.ownBlock ≠ some wr.heap.size := by
    intro j v hv
    have h1 := (Free.new HS.out.st (.cells #[] 0)).2.2 j v
    rw [World.cell?_of_block (Below.heap_alloc wr _ g hgl)] at h1
    rw [World.cell?_of_block (HB0.out.block g hgl)] at hv
    exact h1 hv
  have hbx := bl_cell HBX.out 0
  simp at hbx
  refine wpIn_rangeFunc_ownH (F := Fence.wide) rfl (by decide) (gf := 94) (lb := #[.pointer (some ⟨wr.heap.size + 1, 0, none⟩)]) rfl trivial (enters_of Tryz.func94 (by kernel_rfl) rfl)
    (ready_stopsS 8 (wr.heap.size + 1) g w2.heap.size wr.heap.size y W0 hbx HS0.out.st (by omega) (by omega) hcx HO.out.nodupC (by have := HO.out.way; omega) (by have := HO.out.cuts256; omega)) kptx_t (kptx_b (Nat.le_refl _)) (Below.refl _ _) (fun _ => rfl)
    (fun pre W => pre = [] ∧ Below wr.heap.size W0 W ∧ ∃ v, W.heap[wr.heap.size]? = some (.cells #[v] 3 (0, 0)) ∧ (rdyF y = [] → v = .int .i64 (-1)))
    (fun c pre W => c = .exit 5 ∧ ∃ k, pre.map (·.1) = [k] ∧ Below wr.heap.size W0 W ∧ W.heap[wr.heap.size]? = some (.cells #[.int .i64 (k : Int)] 3 (0, 0)))
    ?hI ?hIx ?h0 (fun x a' W => Below wr.heap.size W0 W ∧ W.heap[wr.heap.size]? = some (.cells #[.int .i64 (x.1 : Int)] 3 (0, 0))) ?hAx ?assign ?body ?done ?stop
  case hI =>
    intro s A V row hs hg hr
    obtain ⟨h1, h2, v, h3, h4⟩ := hs
    exact ⟨h1, h2.grown hg (Nat.le_trans (by omega) h2.size) (fun k e => by have := (hr k e).1; omega), v, kept_cells h3 hg (fun r e => (hr r e).2), h4⟩
  case hIx =>
    intro c s A V row hs hg hr
    obtain ⟨h1, k, h2, h3, h4⟩ := hs
    exact ⟨h1, k, h2, h3.grown hg (Nat.le_trans (by omega) h3.size) (fun k e => by have := (hr k e).1; omega), kept_cells h4 hg (fun r e => (hr r e).2)⟩
  case h0 => exact ⟨rfl, (Below.refl _ _), _, HAT.out, fun _ => rfl⟩
  case hAx =>
    intro x a' s A V row hs hg hr
    exact ⟨hs.1.grown hg (Nat.le_trans (by omega) hs.1.size) (fun k e => by have := (hr k e).1; omega), kept_cells hs.2 hg (fun r e => (hr r e).2)⟩
  case assign =>
    rintro l pre x W K ⟨rfl, hB, v, hv, hnil⟩ hK
    have hne : rdyF y ≠ [] := List.ne_nil_of_mem x.2
    have y0 := bl_cell hv 0
    have y1 := bl_frozen hv 0
    have y2 := bl_lt hv
    have HK := Lib.hid hK
    have HV := Lib.hid hv
    have HBW := Lib.hid hB
    have HNE := Lib.hid hne
    clear hK hv hB hnil hne
    simp at y0
    gi_wp2
    refine HK.out _ _ ((KeepsOthers.setCell _ _ _).from _) ⟨⟨by simp [World.setCell], fun i hi hne => Below.heap_setCell _ _ _ _ hne⟩, (KeepsOthers.setCell _ _ _).walks⟩ ⟨by trivial, HBW.out.setCell (p := ⟨wr.heap.size, 0, none⟩) (Nat.le_refl _) _, _, by simpa using bl_set HV.out 0 (.int .i64 (x.1 : Int)), fun h => absurd h HNE.out⟩ ⟨HBW.out.setCell (p := ⟨wr.heap.size, 0, none⟩) (Nat.le_refl _) _, by simpa using bl_set HV.out 0 (.int .i64 (x.1 : Int))⟩
  case body =>
    rintro l pre x a' W hl hlr ⟨rfl, hB, -⟩ ⟨hB2, hv⟩ hlen
    refine wpIn_block ?_
    refine wpIn_exit ?_
    exact ⟨KeepsFrom.refl _ _, rfl, x.1, rfl, hB2, hv⟩
  case done =>
    rintro D xs W hD hxs ⟨rfl, -⟩ hK
    exact absurd (hxs.symm.trans rfl) (by rw [HR.out]; simp)
  case stop =>
    rintro D c pre W hD hpre ⟨rfl, k, hpk, hB, hv⟩ hK
    rw [hpk, HR.out] at hpre
    have hki : k = i := by simpa using hpre
    subst hki
    have HS1 := Lib.hid (HS.out.mark (HB0.out.trans hB) (by omega) hK)
    have y0 := bl_cell hv 0
    simp at y0
    have ylt := bl_lt hv
    obtain ⟨l, hdl, hd2, hlen⟩ := dlv_step HD.out HC.out HR.out
    have HDL := Lib.hid hdl
    have HD2 := Lib.hid hd2
    have HLEN := Lib.hid hlen
    have HO2 : Hid (Ok { y with way := y.way.eraseIdx k }) := erase_keeps HO.out k
    have hbs := HS1.out.bw.size
    clear hpre hpk hB hv hK hdl hd2 hlen HB0 HAT HBX hcx hbx HS0 hsz
    gi_wp2_with (first
      | (refine ⟨trivial, ?_⟩; gi_at_call 42; refine (callsIn_wide.2 (deliver_m w2.heap.size g y (k : Int) _ HS1.out.st HO.out hbs)).mono ?_; rintro e w5 ⟨rfl, hm⟩; rw [HDL.out] at hm; have HS2 := Lib.hid (HS1.out.mth hm rfl); clear hm; rw [HDL.out])
      | (gi_at_builtin; refine stop_here ?_))
    have HS3 := Lib.hid (HS2.out.below (below_alloc (below_alloc (Below.refl _ _) (.cells #[.int .i64 l.id, .int .i64 l.fr, .int .i64 l.to, .int .i64 l.rd, .string l.data] 33)) (.cells #[.int .i64 l.id, .int .i64 l.fr, .int .i64 l.to, .int .i64 l.rd, .string l.data] 33)))
    change wpListIn _ _ _ _ _ _ _ (World.alloc (w5.alloc _) _)
    refine wpListIn_app _ w2.heap.size rfl (.tmp 66) (.tmp 68) 22 33 _ 48 rfl Tryz.underlying22 infoW rfl (by decide) (by decide) u10 L [l] (some ⟨w5.heap.size + 1, 0, none⟩) 1 rfl rfl HS3.out.ol ?hR ?hB ?hL ?_
    case hR =>
      have h := Rd.new (w5.alloc (.cells #[.int .i64 l.id, .int .i64 l.fr, .int .i64 l.to, .int .i64 l.rd, .string l.data] 33)) 33 l #[.int .i64 l.id, .int .i64 l.fr, .int .i64 l.to, .int .i64 l.rd, .string l.data] rfl
      simp only [World.size_alloc] at h
      exact h
    case hB => exact HS3.out.bw.size
    case hL => simp; omega
    intro v1 w8 ho hg hat
    have HS4 := Lib.hid (HS3.out.letters ho hg hat)
    clear ho hg hat
    gi_wp2
    refine ⟨⟨_, D :: Ds, _, _, _, stD_of 84 (by rfl), rfl, rfl, rfl, rfl, rfl, HS4, HO2, HD2⟩, ?_⟩
    rw [calmMu_at HS4.out]
    have := HLEN.out
    show (y.way.eraseIdx k).length < _
    omega
set_option maxHeartbeats 4000000 in
set_option maxRecDepth 100000 in
theorem calm_none (w2 : World) (g : Nat) (x0 : Nt) (L0 : List Lt) (T : List Tm) (p4 u10 u11 : Value) (lf : Nat) (f : Nat → Value) (Ds : List Nat) (y : Nt) (L : List Lt) (wr : World) (Q0 : Exit → Act → World → Prop)
    (h4 : f 4 = p4) (h8 : f 8 = .pointer (some ⟨g, 0, none⟩)) (h10 : f 10 = u10) (h11 : f 11 = u11) (h12 : f 12 = .int .i64 (lf : Int)) (hl1 : 1 ≤ lf) (hl2 : lf ≤ 1000)
    (HS : Hid (CalmS w2 g y L T u10 u11 Ds wr)) (HO : Hid (Ok y)) (HD : Hid (Dlv x0 L0 y L)) (HC : Hid (x0.cuts = [])) (hLL : L.length ≤ 1000000) (HR : Hid (rdyF y = [])) (hx3 : ∀ (l : List Value) (E : List Nat) (V : World), l.length = 84 → l.getD 4 undef = p4 → l.getD 8 undef = .pointer (some ⟨g, 0, none⟩) → l.getD 10 undef = u10 → l.getD 11 undef = u11 → l.getD 12 undef = .int .i64 (lf : Int) → CalmS w2 g y L T u10 u11 E V → Q0 (.exit 3) ⟨l.toArray, Marks E⟩ V) :
    calmInn.wpIn Fence.wide 9 Tryz.prog (Exit.then (fun a' w' => calmI w2 g x0 L0 T p4 u11 lf a' w' ∧ calmMu g a' w' < calmMu g (stD 84 f (Marks Ds)) wr) Q0) (stD 84 f (Marks Ds)) wr := by
  conv => arg 4; whnf
  have hmu := Lib.hid (calmMu_at HS.out (stD 84 f (Marks Ds)))
  rw [hmu.out]
  rw [stD_all, h4, h8, h10, h11, h12]
  clear h4 h8 h10 h11 h12
  have hgl := HS.out.st.lt
  gi_wp2_with (refine ⟨trivial, ?_⟩; gi_at_call 58; refine (callsIn_wide.2 (ready_any _ _)).mono ?_; rintro e w' ⟨rfl, rfl⟩)
  obtain ⟨W0, hW0⟩ : ∃ W0, W0 = (wr.alloc (.cells #[.int .i64 (-1)] 3)).alloc (.cells #[.pointer (some ⟨g, 0, none⟩)] 87) := ⟨_, rfl⟩
  rw [← hW0]
  have HB0 : Hid (Below wr.heap.size wr W0) := by rw [hW0]; exact below_alloc (below_alloc (Below.refl _ _) _) _
  have hsz : W0.heap.size = wr.heap.size + 2 := by rw [hW0]; simp
  have HAT : Hid (W0.heap[wr.heap.size]? = some (.cells #[.int .i64 (-1)] 3 (0, 0))) := by
    rw [hW0]; exact bl_alloc (bl_new wr _) _
  have HBX : Hid (W0.heap[wr.heap.size + 1]? = some (.cells #[.pointer (some ⟨g, 0, none⟩)] 87 (0, 0))) := by
    rw [hW0]; exact bl_newZ (by simp)
  have HS0 := Lib.hid (HS.out.below HB0.out)
  clear hW0
  have hcx : ∀ j v, W0.cell? ⟨g, j, none⟩ = some v → v.ownBlock ≠ some wr.heap.size := by
    intro j v hv
    have h1 := (Free.new HS.out.st (.cells #[] 0)).2.2 j v
    rw [World.cell?_of_block (Below.heap_alloc wr _ g hgl)] at h1
    rw [World.cell?_of_block (HB0.out.block g hgl)] at hv
    exact h1 hv
  have hbx := bl_cell HBX.out 0
  simp at hbx
  refine wpIn_rangeFunc_ownH (F := Fence.wide) rfl (by decide) (gf := 94) (lb := #[.pointer (some ⟨wr.heap.size + 1, 0, none⟩)]) rfl trivial (enters_of Tryz.func94 (by kernel_rfl) rfl)
    (ready_stopsS 8 (wr.heap.size + 1) g w2.heap.size wr.heap.size y W0 hbx HS0.out.st (by omega) (by omega) hcx HO.out.nodupC (by have := HO.out.way; omega) (by have := HO.out.cuts256; omega)) kptx_t (kptx_b (Nat.le_refl _)) (Below.refl _ _) (fun _ => rfl)
    (fun pre W => pre = [] ∧ Below wr.heap.size W0 W ∧ ∃ v, W.heap[wr.heap.size]? = some (.cells #[v] 3 (0, 0)) ∧ (rdyF y = [] → v = .int .i64 (-1)))
    (fun c pre W => c = .exit 5 ∧ ∃ k, pre.map (·.1) = [k] ∧ Below wr.heap.size W0 W ∧ W.heap[wr.heap.size]? = some (.cells #[.int .i64 (k : Int)] 3 (0, 0)))
    ?hI ?hIx ?h0 (fun x a' W => Below wr.heap.size W0 W ∧ W.heap[wr.heap.size]? = some (.cells #[.int .i64 (x.1 : Int)] 3 (0, 0))) ?hAx ?assign ?body ?done ?stop
  case hI =>
    intro s A V row hs hg hr
    obtain ⟨h1, h2, v, h3, h4⟩ := hs
    exact ⟨h1, h2.grown hg (Nat.le_trans (by omega) h2.size) (fun k e => by have := (hr k e).1; omega), v, kept_cells h3 hg (fun r e => (hr r e).2), h4⟩
  case hIx =>
    intro c s A V row hs hg hr
    obtain ⟨h1, k, h2, h3, h4⟩ := hs
    exact ⟨h1, k, h2, h3.grown hg (Nat.le_trans (by omega) h3.size) (fun k e => by have := (hr k e).1; omega), kept_cells h4 hg (fun r e => (hr r e).2)⟩
  case h0 => exact ⟨rfl, (Below.refl _ _), _, HAT.out, fun _ => rfl⟩
  case hAx =>
    intro x a' s A V row hs hg hr
    exact ⟨hs.1.grown hg (Nat.le_trans (by omega) hs.1.size) (fun k e => by have := (hr k e).1; omega), kept_cells hs.2 hg (fun r e => (hr r e).2)⟩
  case assign =>
    rintro l pre x W K ⟨rfl, hB, v, hv, hnil⟩ hK
    have hne : rdyF y ≠ [] := List.ne_nil_of_mem x.2
    have y0 := bl_cell hv 0
    have y1 := bl_frozen hv 0
    have y2 := bl_lt hv
    have HK := Lib.hid hK
    have HV := Lib.hid hv
    have HBW := Lib.hid hB
    have HNE := Lib.hid hne
    clear hK hv hB hnil hne
    simp at y0
    gi_wp2
    refine HK.out _ _ ((KeepsOthers.setCell _ _ _).from _) ⟨⟨by simp [World.setCell], fun i hi hne => Below.heap_setCell _ _ _ _ hne⟩, (KeepsOthers.setCell _ _ _).walks⟩ ⟨by trivial, HBW.out.setCell (p := ⟨wr.heap.size, 0, none⟩) (Nat.le_refl _) _, _, by simpa using bl_set HV.out 0 (.int .i64 (x.1 : Int)), fun h => absurd h HNE.out⟩ ⟨HBW.out.setCell (p := ⟨wr.heap.size, 0, none⟩) (Nat.le_refl _) _, by simpa using bl_set HV.out 0 (.int .i64 (x.1 : Int))⟩
  case body =>
    rintro l pre x a' W hl hlr ⟨rfl, hB, -⟩ ⟨hB2, hv⟩ hlen
    refine wpIn_block ?_
    refine wpIn_exit ?_
    exact ⟨KeepsFrom.refl _ _, rfl, x.1, rfl, hB2, hv⟩
  case done =>
    rintro D xs W hD hxs ⟨rfl, hB, v, hv, hnil⟩ hK
    obtain rfl := hnil HR.out
    have HS1 := Lib.hid (HS.out.mark (HB0.out.trans hB) (by omega) hK)
    have y0 := bl_cell hv 0
    simp at y0
    have ylt := bl_lt hv
    have HDL := Lib.hid (deliver_no y)
    have hbs := HS1.out.bw.size
    clear hB hv hK HB0 HAT HBX hcx hbx HS0 hsz hnil
    gi_wp2_with (refine ⟨trivial, ?_⟩; gi_at_call 42; refine (callsIn_wide.2 (deliver_m w2.heap.size g y (-1) _ HS1.out.st HO.out hbs)).mono ?_; rintro e w5 ⟨rfl, hm⟩; rw [HDL.out] at hm; have HS2 := Lib.hid (HS1.out.below (by rcases hm with ⟨-, h⟩ | ⟨h, -⟩ <;> first | exact h | exact absurd h (by decide))); clear hm; rw [HDL.out])
    exact hx3 _ (D :: Ds) _ rfl rfl rfl rfl rfl rfl (HS2.out.below (below_alloc (Below.refl _ _) _))
  case stop =>
    rintro D c pre W hD hpre ⟨rfl, k, hpk, hB, hv⟩ hK
    rw [hpk, HR.out] at hpre
    simp at hpre
/-- What is known at the head of a tick. -/
def calmO (w2 : World) (g : Nat) (x : Nt) (N : Nat) (p4 : Value) (a : Act) (W : World) : Prop :=
  ∃ (k : Nat) (f : Nat → Value) (Ds : List Nat) (u10 u11 : Value), a = stD 84 f (Marks Ds) ∧ k ≤ N ∧ f 4 = p4 ∧ f 8 = .pointer (some ⟨g, 0, none⟩) ∧ f 10 = u10 ∧ f 11 = u11 ∧ f 12 = .int .i64 ((N - k : Nat) : Int) ∧ Hid (CalmS w2 g (calmX x k) (calmL x k) (calmT x k) u10 u11 Ds W)
def calmMo (a : Act) (_ : World) : Nat := (intOf (a.tmps.getD 12 undef)).toNat
set_option maxHeartbeats 4000000 in
set_option maxRecDepth 100000 in
theorem calm_tick (w2 : World) (g : Nat) (x : Nt) (N k : Nat) (p4 u10 u11 : Value) (f : Nat → Value) (Ds : List Nat) (wr : World) (Q0 : Exit → Act → World → Prop)
    (h4 : f 4 = p4) (h8 : f 8 = .pointer (some ⟨g, 0, none⟩)) (h10 : f 10 = u10) (h11 : f 11 = u11) (h12 : f 12 = .int .i64 ((N - k : Nat) : Int)) (hk : k < N) (hN : N ≤ 1000)
    (HX : Hid (Ok x)) (HC : Hid (x.cuts = [])) (hlim : x.now + N ≤ 1099511627776) (HS : Hid (CalmS w2 g (calmX x k) (calmL x k) (calmT x k) u10 u11 Ds wr)) :
    calmOut.wpIn Fence.wide 9 Tryz.prog (Exit.then (fun a' w' => calmO w2 g x N p4 a' w' ∧ calmMo a' w' < calmMo (stD 84 f (Marks Ds)) wr) Q0) (stD 84 f (Marks Ds)) wr := by
  conv => arg 4; whnf
  have hmu : Hid (calmMo (stD 84 f (Marks Ds)) wr = N - k) := by
    show _ = _
    unfold calmMo
    rw [stD_getD (by decide), h12]; rfl
  rw [hmu.out]
  obtain ⟨x0, hx0⟩ : ∃ z, z = calmX x k := ⟨_, rfl⟩
  obtain ⟨L0, hL0⟩ : ∃ z, z = calmL x k := ⟨_, rfl⟩
  obtain ⟨T0, hT0⟩ : ∃ z, z = calmT x k := ⟨_, rfl⟩
  obtain ⟨lf, hlf⟩ : ∃ z, z = N - k := ⟨_, rfl⟩
  have hca := calm_at HX.out k (by omega)
  have hlen : L0.length + x0.way.length ≤ 200 := by
    have h1 := (calm_perm HX.out k (by omega)).length_eq
    have h2 := HX.out.way
    rw [hL0, hx0, ← List.length_append, h1]; exact h2
  have hlenT : T0.length + x0.timers.length ≤ 64 := by
    have h1 := (calm_tperm HX.out k (by omega)).1.length_eq
    have h2 := HX.out.tms
    rw [hT0, hx0, ← List.length_append, h1]; exact h2
  have HSX : Hid (calmX x (k + 1) = calm1 x0 ∧ calmL x (k + 1) = L0 ++ dueF x0.now x0.way ∧ calmT x (k + 1) = T0 ++ (tickM x0).ts) := by rw [hx0, hL0, hT0]; exact ⟨rfl, rfl, rfl⟩
  rw [← hx0, ← hL0, ← hT0] at HS
  rw [← hx0] at hca
  rw [← hlf] at h12 ⊢
  have hnow : ¬ x0.now = 1099511627776 := by have := hca.2.1; omega
  have HCA := Lib.hid hca
  have HC0 : Hid (x0.cuts = []) := hca.2.2.1.trans HC.out
  have HLF : Hid (lf = N - k) := hlf
  have HNW := Lib.hid hnow
  have hl1 : 1 ≤ lf := by omega
  have hl2 : lf ≤ 1000 := by omega
  clear hx0 hL0 hT0 hlf hca hnow hmu
  rw [stD_all, h4, h8, h10, h11, h12]
  clear h4 h8 h10 h11 h12
  gi_wp2
  rw [stD_of (ds := Marks Ds) 84 (by rfl)]
  refine wpIn_loop (calmI w2 g x0 L0 T0 p4 u11 lf) (calmMu g) ⟨_, Ds, x0, L0, u10, rfl, rfl, rfl, rfl, rfl, rfl, HS, HCA.out.1, dlv_start x0 L0⟩ ?_
  rintro a W ⟨f, Es, y, L, v10, rfl, h4, h8, h10, h11, h12, HSy, HOy, HDy⟩
  have hLl : L.length ≤ 1000000 := by
    have h1 := congrArg List.length HDy.out.2.2.1
    have h2 : (dueF x0.now x0.way).length ≤ x0.way.length := List.length_filter_le _ _
    rw [List.length_append, List.length_append] at h1
    omega
  obtain ⟨rd, hrd⟩ : ∃ r, r = rdyF y := ⟨_, rfl⟩
  cases rd with
  | cons i r => exact calm_more w2 g x0 L0 T0 p4 v10 u11 lf f Es y L W _ h4 h8 h10 h11 h12 hl1 hl2 HSy HOy HDy HC0 hLl i r hrd.symm
  | nil =>
    refine calm_none w2 g x0 L0 T0 p4 v10 u11 lf f Es y L W _ h4 h8 h10 h11 h12 hl1 hl2 HSy HOy HDy HC0 hLl hrd.symm ?_
    clear h4 h8 h10 h11 h12 HSy f W
    intro l E V hl e4 e8 e10 e11 e12 hCS
    obtain ⟨hy, hL⟩ := dlv_end HDy.out HC0.out hrd.symm
    rw [hL] at hCS
    have htk := tick_m w2.heap.size g y V hCS.st HOy.out hCS.bw.size
    have hte : (tickM y).e = 0 := by rw [hy, (tick_ways x0 _).2]; unfold tickM; rw [if_neg HNW.out]
    have htx : (tickM y).x = calm1 x0 := by rw [hy]; rfl
    have htt : (tickM y).ts = (tickM x0).ts := by rw [hy, (tick_ways x0 _).1]
    have hlt : (tickM x0).ts.length ≤ x0.timers.length := by unfold tickM; rw [if_neg HNW.out]; exact List.length_filter_le _ _
    obtain ⟨rt, hrt⟩ : ∃ r, r = tickM y := ⟨_, rfl⟩
    rw [← hrt] at htk hte htx htt
    obtain ⟨rx, rid, rl, rts, re⟩ := rt
    simp only at htk hte htx htt
    subst hte htx htt
    have HTK := Lib.hid htk
    have HCS := Lib.hid hCS
    clear htk hCS hrt hy hL hrd HOy HDy
    have hst := stD_of (ds := Marks E) 84 hl
    rw [hst, stD_all, e4, e8, e10, e11, e12]
    clear hst e4 e8 e10 e11 e12 hl
    gi_wp2_with (first
      | (refine ⟨trivial, ?_⟩; gi_at_call 59; refine (callsIn_wide.2 HTK.out).mono ?_; rintro e w5 ⟨v, rfl, ho, hm⟩; obtain ⟨A5, c5, rfl, -, hR5⟩ := ho.slice; have HR5 := Lib.hid hR5; have HS2 := Lib.hid (HCS.out.mth hm rfl); clear hm ho hR5)
      | (gi_at_builtin; refine stop_here ?_))
    refine wpListIn_app _ w2.heap.size rfl (.tmp 75) (.tmp 76) 24 86 _ 24 rfl Tryz.underlying24 infoT rfl (by decide) (by decide) u11 T0 (tickM x0).ts A5 c5 rfl rfl HS2.out.ot HR5.out HS2.out.bw.size (by omega) ?_
    intro v1 w8 ho hg hat
    have HS4 := Lib.hid (HS2.out.timers ho hg hat)
    clear ho hg hat HS2 HCS
    gi_wp2
    obtain ⟨s1, s2, s3⟩ := HSX.out
    have hNk : ((lf : Int) - 1) = ((N - (k + 1) : Nat) : Int) := by have := HLF.out; omega
    refine ⟨⟨k + 1, _, E, _, _, stD_of 84 (by rfl), by omega, rfl, rfl, rfl, rfl, ?_, ?_⟩, ?_⟩
    · show Value.int .i64 ((lf : Int) - 1) = _; rw [hNk]
    · show CalmS _ _ _ _ _ _ _ _ _; rw [s1, s2, s3]; exact HS4.out
    · show (intOf (.int .i64 ((lf : Int) - 1))).toNat < lf
      simp [intOf]; omega
set_option maxHeartbeats 4000000 in
set_option maxRecDepth 100000 in
theorem calm_last (w2 : World) (g : Nat) (x : Nt) (N k : Nat) (p4 u10 u11 : Value) (f : Nat → Value) (Ds : List Nat) (wr : World) (Q0 : Exit → Act → World → Prop)
    (h4 : f 4 = p4) (h8 : f 8 = .pointer (some ⟨g, 0, none⟩)) (h10 : f 10 = u10) (h11 : f 11 = u11) (h12 : f 12 = .int .i64 ((N - k : Nat) : Int)) (hk : k = N) (hN : N ≤ 1000)
    (HX : Hid (Ok x)) (HC : Hid (x.cuts = [])) (hlim : x.now + N ≤ 1099511627776) (HS : Hid (CalmS w2 g (calmX x k) (calmL x k) (calmT x k) u10 u11 Ds wr))
    (hx1 : ∀ (l : List Value) (E : List Nat) (V : World), l.length = 84 → l.getD 4 undef = p4 → l.getD 8 undef = .pointer (some ⟨g, 0, none⟩) → l.getD 10 undef = u10 → l.getD 11 undef = u11 → CalmS w2 g (calmX x N) (calmL x N) (calmT x N) u10 u11 E V → Q0 (.exit 1) ⟨l.toArray, Marks E⟩ V) :
    calmOut.wpIn Fence.wide 9 Tryz.prog (Exit.then (fun a' w' => calmO w2 g x N p4 a' w' ∧ calmMo a' w' < calmMo (stD 84 f (Marks Ds)) wr) Q0) (stD 84 f (Marks Ds)) wr := by
  subst hk
  conv => arg 4; whnf
  have hca := calm_at HX.out k (by omega)
  have hlen : (calmL x k).length ≤ 200 := by
    have h1 := (calm_perm HX.out k (by omega)).length_eq
    have h2 := HX.out.way
    rw [List.length_append] at h1; omega
  rw [Nat.sub_self] at h12
  rw [stD_all, h4, h8, h10, h11, h12]
  clear h4 h8 h10 h11 h12
  gi_wp2
  refine wpIn_loop_once ?_
  gi_wp2
  exact hx1 _ Ds _ rfl rfl rfl rfl rfl HS.out
set_option maxHeartbeats 4000000 in
set_option maxRecDepth 100000 in
theorem calm_in (x : Nt) (N : Nat) (v : Value) (w : World) (hV : NetV w v x) (hx : Ok x) (hN : N ≤ 1000) (hlim : x.now + N ≤ 1099511627776) :
    CallsIn Fence.wide 9 Tryz.prog 27 #[v, .int .i64 (N : Int)] w fun e w' => ∃ v u t, e = .returned (.tuple #[v, u, t, .int .i64 0]) ∧ NetO w' w.heap.size v (calmX (noCut x) N) ∧ Own w' w.heap.size 33 u (calmL (noCut x) N) ∧ Own w' w.heap.size 86 t (calmT (noCut x) N) ∧ Below w.heap.size w w' := by
  obtain ⟨AW, cW, AC, cC, AT, cT, rfl, hW, hC, hT⟩ := hV
  have hck := (ok_iff x).2 hx
  have h1 := hx.way
  have h2 := hx.cuts256
  have h3 := hx.tms
  have hnow := hx.t0
  have HCH : Hid (∀ W, Below w.heap.size w W → Calls Tryz.prog 36 #[.agg #[.int .i64 x.nodes, .int .i64 x.now, .int .i64 x.next, .slice AW x.way.length cW, .slice AC x.cuts.length cC, .slice AT x.timers.length cT]] W fun e w' => ∃ g, e = .returned (.tuple #[.pointer (some ⟨g, 0, none⟩), .int .i64 0]) ∧ St w' W.heap.size g x ∧ Below W.heap.size W w') := fun W hb => changing_ok x AW AC AT cW cC cT W (by omega) (by omega) (by omega) (hW.below hb) (hC.below hb) (hT.below hb) hck
  have HOK := Lib.hid hx
  have d1 : decide ((N : Int) < 0) = false := decide_eq_false (by omega)
  have d2 : decide ((1000 : Int) < (N : Int)) = false := decide_eq_false (by omega)
  have hwr : IntKind.i64.wrap (x.now + (N : Int)) = x.now + (N : Int) := IntWalk.i64_in _ (by omega)
  have d3 : decide (1099511627776 < x.now + (N : Int)) = false := decide_eq_false (by omega)
  clear hW hC hT hck hx
  refine callsIn_of_wp_marks Tryz.func27 rfl trivial ?_ rfl
  simp only [Tryz.ntmps27, List.size_toArray, List.length_cons, List.length_nil, Nat.reduceAdd, Nat.reduceSub, Array.replicate_succ, Array.replicate_zero, List.push_toArray, List.append_toArray, List.nil_append, List.cons_append]
  gi_wp2
  refine wpIn_scopeW ?_
  gi_wp2_with fail
  obtain ⟨w2, hw2⟩ : ∃ w2, w2 = (w.alloc (.cells #[.int .i64 x.nodes, .int .i64 x.now, .int .i64 x.next, .slice AW x.way.length cW, .slice AC x.cuts.length cC, .slice AT x.timers.length cT] 26)).alloc (.cells #[.int .i64 0, .int .i64 0, .int .i64 0, .slice none 0 0, .slice none 0 0, .slice none 0 0] 26) := ⟨_, rfl⟩
  rw [← hw2]
  have HB2 : Hid (Below w.heap.size w w2) := by rw [hw2]; exact below_alloc (below_alloc (Below.refl _ _) _) _
  have hs2 : w2.heap.size = w.heap.size + 2 := by rw [hw2]; simp
  have HZ2 : Hid (w2.heap[w.heap.size + 1]? = some (.cells #[.int .i64 0, .int .i64 0, .int .i64 0, .slice none 0 0, .slice none 0 0, .slice none 0 0] 26 (0, 0))) := by rw [hw2]; exact bl_newZ (by simp)
  clear hw2
  refine ⟨trivial, ?_⟩
  refine (callsIn_wide.2 (HCH.out _ HB2.out)).mono ?_
  rintro e w3 ⟨g, rfl, hS3, hb3⟩
  obtain ⟨AW3, cW3, AC3, cC3, AT3, cT3, hg3, hB3, oW3, oC3, oT3⟩ := hS3.open
  have HG3 := Lib.hid hg3
  obtain ⟨⟨k0, k1, k2, k3, k4, k5⟩, f0, f1, f2, f3, f4, f5⟩ := blc6 hg3
  have hlg := bl_lt hg3
  have HW3 := Lib.hid oW3
  have HT3 := Lib.hid oT3
  have HB3 := Lib.hid hb3
  clear hg3 oW3 oC3 oT3 hS3 hb3
  gi_wp2
  refine wpIn_label ?_
  gi_wp2
  have HS0 : Hid (CalmS w2 g (noCut x) [] [] (.slice none 0 0) (.slice none 0 0) [] (w3.setCell ⟨g, 4, none⟩ (.slice none 0 0))) := by
    have hne := HW3.out.ne HG3.out (by decide)
    have hne' := HT3.out.ne HG3.out (by decide)
    refine ⟨⟨_, _, _, by simpa [noCut] using bl_set HG3.out 4 (.slice none 0 0), hB3, HW3.out.setCell hne _, Own.nil _ _ _, HT3.out.setCell hne' _⟩, Own.nil _ _ _, Own.nil _ _ _, fun b e => by simp [Value.ownBlock] at e, fun b e => by simp [Value.ownBlock] at e, HB3.out.setCell (p := ⟨g, 4, none⟩) hB3 _, List.nodup_nil, fun D hD => by simp at hD⟩
  have HOK' : Hid (Ok (noCut x)) := nocut_ok HOK.out
  have hlim' : (noCut x).now + (N : Int) ≤ 1099511627776 := hlim
  clear HG3 HW3 HT3 HB3 k0 k1 k2 k3 k4 k5 f0 f1 f2 f3 f4 f5 hlg HCH d1 d2 d3 hwr hB3
  refine wpIn_loop (calmO w2 g (noCut x) N (.pointer (some ⟨w.heap.size + 1, 0, none⟩))) calmMo ⟨0, _, [], _, _, stD_of 84 (by rfl), Nat.zero_le _, rfl, rfl, rfl, rfl, rfl, HS0⟩ ?_
  clear HS0
  rintro a W ⟨k, f, Ds, u10, u11, rfl, hk, h4, h8, h10, h11, h12, HS⟩
  by_cases hlt : k < N
  · exact calm_tick w2 g (noCut x) N k _ u10 u11 f Ds W _ h4 h8 h10 h11 h12 hlt hN HOK' rfl hlim' HS
  · refine calm_last w2 g (noCut x) N k _ u10 u11 f Ds W _ h4 h8 h10 h11 h12 (by omega) hN HOK' rfl hlim' HS ?_
    clear HS h4 h8 h10 h11 h12
    intro l E V hl e4 e8 e10 e11 hCS
    have hca := (calm_at HOK'.out N hlim').1
    obtain ⟨y, hy⟩ : ∃ z, z = calmX (noCut x) N := ⟨_, rfl⟩
    obtain ⟨L, hL⟩ : ∃ z, z = calmL (noCut x) N := ⟨_, rfl⟩
    obtain ⟨T, hT⟩ : ∃ z, z = calmT (noCut x) N := ⟨_, rfl⟩
    rw [← hy, ← hL, ← hT] at hCS
    rw [← hy] at hca
    have HY := Lib.hid hy
    have HL := Lib.hid hL
    have HT := Lib.hid hT
    have HCS := Lib.hid hCS
    obtain ⟨AWy, cWy, ACy, cCy, ATy, cTy, hgy, -, oWy, oCy, oTy⟩ := hCS.st.open
    obtain ⟨⟨k0, k1, k2, k3, k4, k5⟩, -⟩ := blc6 hgy
    have hlg := bl_lt hgy
    have HNO : Hid (NetO V w2.heap.size (.agg #[.int .i64 y.nodes, .int .i64 y.now, .int .i64 y.next, .slice AWy y.way.length cWy, .slice ACy y.cuts.length cCy, .slice ATy y.timers.length cTy]) y) := ⟨AWy, cWy, ACy, cCy, ATy, cTy, rfl, oWy, oCy, oTy⟩
    have hz := bl_below HZ2.out (hCS.bw.mono (by omega))
    have hlz := bl_lt hz
    have HZ := Lib.hid hz
    obtain ⟨⟨z0, z1, z2, z3, z4, z5⟩, y0, y1, y2, y3, y4, y5⟩ := blc6 hz
    have hst := stD_of (ds := Marks E) 84 hl
    rw [hst, stD_all, e4, e8, e10, e11]
    clear hst e4 e8 e10 e11 hl hy hL hT hgy oWy oCy oTy hz hCS
    gi_wp2
    show LeavesInM Fence.wide 9 Tryz.prog Tryz.f27 _ _ (Marks E) .returning _
    refine leaves_marks (m := w2.heap.size) (C := fun V' => V'.heap[w.heap.size + 1]? = some (.cells #[.int .i64 y.nodes, .int .i64 y.now, .int .i64 y.next, .slice AWy y.way.length cWy, .slice ACy y.cuts.length cCy, .slice ATy y.timers.length cTy] 26 (0, 0)) ∧ NetO V' w2.heap.size (.agg #[.int .i64 y.nodes, .int .i64 y.now, .int .i64 y.next, .slice AWy y.way.length cWy, .slice ACy y.cuts.length cCy, .slice ATy y.timers.length cTy]) y ∧ Own V' w2.heap.size 33 u10 L ∧ Own V' w2.heap.size 86 u11 T ∧ Below w.heap.size w V')
      (v := .tuple #[.agg #[.int .i64 y.nodes, .int .i64 y.now, .int .i64 y.next, .slice AWy y.way.length cWy, .slice ACy y.cuts.length cCy, .slice ATy y.timers.length cTy], u10, u11, .int .i64 0]) ?hC ?hend E _ ?start HCS.out.nd ?ms
    case hC =>
      rintro V' D ⟨c1, c2, c3, c4, c5⟩ hD hm
      have hr : ∀ r, some D = some r → ∃ o : Obj, V'.heap[r]? = some o ∧ o.isCells = false := fun r e => by cases e; exact ⟨_, hD, rfl⟩
      have hg := grownBy_putObj' V' D (.deferred none)
      exact ⟨kept_cells c1 hg hr, kept_netO c2 hg hr, kept_own c3 hg hr, kept_own c4 hg hr, c5.trans (belowK_b (w := w2) (by omega) V' D _ _ hm hD rfl rfl)⟩
    case hend =>
      rintro V' ⟨c1, c2, c3, c4, c5⟩
      refine ⟨res_cttt Tryz.results27 (w.heap.size + 1) 26 #[.int .i64 y.nodes, .int .i64 y.now, .int .i64 y.next, .slice AWy y.way.length cWy, .slice ACy y.cuts.length cCy, .slice ATy y.timers.length cTy] _ rfl c1 Tryz.underlying26 rfl sizeNet rfl rfl rfl, _, _, _, rfl, ?_, ?_, ?_, c5⟩
      · rw [← HY.out]; exact c2.weaken (by omega)
      · rw [← HL.out]; exact c3.weaken (by omega)
      · rw [← HT.out]; exact c4.weaken (by omega)
    case start =>
      have hlt2 : w.heap.size + 1 < w2.heap.size := by omega
      refine ⟨bl_all6 HZ.out _ _ _ _ _ _, HNO.out.far6 hlt2 _ _ _ _ _ _, ?_, ?_, below_set6 (HB2.out.trans (HCS.out.bw.mono (by omega))) (by omega) _ _ _ _ _ _⟩
      · repeat (refine Own.far ?_ (by exact hlt2) _)
        exact HCS.out.ol
      · repeat (refine Own.far ?_ (by exact hlt2) _)
        exact HCS.out.ot
    case ms =>
      intro D hD
      obtain ⟨m1, m2⟩ := HCS.out.ms D hD
      exact ⟨m1, bl_far6 m2 (by omega) _ _ _ _ _ _⟩
theorem Calm_good (x : Nt) (N : Nat) (v : Value) (w : World) (hV : NetV w v x) (hx : Ok x) (hN : N ≤ 1000) (hlim : x.now + N ≤ 1099511627776) :
    Calls Tryz.prog 27 #[v, .int .i64 (N : Int)] w fun e w' => ∃ v u t, e = .returned (.tuple #[v, u, t, .int .i64 0]) ∧ NetO w' w.heap.size v (calmX (noCut x) N) ∧ Own w' w.heap.size 33 u (calmL (noCut x) N) ∧ Own w' w.heap.size 86 t (calmT (noCut x) N) ∧ Below w.heap.size w w' :=
  callsIn_wide.1 (calm_in x N v w hV hx hN hlim)
end Go.Proofs.YthlbmcfliejdiaaGreat
end

section
set_option linter.unusedVariables false
set_option linter.unusedSimpArgs false
namespace Go.Proofs.YthlbmcfliejdiaaGreat
open Go.RowKit

def calmE (x : Nt) (n : Int) : Int := if checkB x = false then 2 else if n < 0 ∨ 1000 < n then 1 else if 1099511627776 < x.now + n then 3 else 0
def calmRX (x : Nt) (n : Int) : Nt := if calmE x n = 0 then calmX (noCut x) n.toNat else zNt
def calmRL (x : Nt) (n : Int) : List Lt := if calmE x n = 0 then calmL (noCut x) n.toNat else []
def calmRT (x : Nt) (n : Int) : List Tm := if calmE x n = 0 then calmT (noCut x) n.toNat else []
def clmQ (x : Nt) (n : Int) (w : World) (e : Ending) (w' : World) : Prop := ∃ v u t, e = .returned (.tuple #[v, u, t, .int .i64 (calmE x n)]) ∧ NetO w' w.heap.size v (calmRX x n) ∧ Own w' w.heap.size 33 u (calmRL x n) ∧ Own w' w.heap.size 86 t (calmRT x n) ∧ Below w.heap.size w w'
theorem clmQ_err {x : Nt} {n k : Int} (hk : calmE x n = k) (h0 : k ≠ 0) {w : World} {e : Ending} {w' : World} (he : e = .returned (.tuple #[zNetV, .slice none 0 0, .slice none 0 0, .int .i64 k])) (hb : Below w.heap.size w w') : clmQ x n w e w' := by
  subst hk
  refine ⟨_, _, _, he, ?_, ?_, ?_, hb⟩
  · unfold calmRX; rw [if_neg h0]; exact zNetV_own _ _
  · unfold calmRL; rw [if_neg h0]; exact Own.nil _ _ _
  · unfold calmRT; rw [if_neg h0]; exact Own.nil _ _ _

set_option maxHeartbeats 1000000 in
set_option maxRecDepth 100000 in
theorem Calm_form (x : Nt) (n : Int) (v : Value) (w : World) (hlw : x.way.length ≤ 10000000) (hlc : x.cuts.length ≤ 10000000) (hlt : x.timers.length ≤ 10000000) (hV : NetV w v x) (hx : checkB x = false) :
    Calls Tryz.prog 27 #[v, .int .i64 n] w fun e w' => e = .returned (.tuple #[zNetV, .slice none 0 0, .slice none 0 0, .int .i64 2]) ∧ Below w.heap.size w w' := by
  obtain ⟨AW, cW, AC, cC, AT, cT, rfl, hW, hC, hT⟩ := hV
  have HX := Lib.hid hx
  clear hx
  go_enter Tryz.func27, Tryz.ntmps27
  go_wp2
  refine wp_scope_straight ?_
  go_wp2_with fail
  obtain ⟨w2, hw2⟩ : ∃ w2, w2 = (w.alloc (.cells #[.int .i64 x.nodes, .int .i64 x.now, .int .i64 x.next, .slice AW x.way.length cW, .slice AC x.cuts.length cC, .slice AT x.timers.length cT] 26)).alloc (.cells #[.int .i64 0, .int .i64 0, .int .i64 0, .slice none 0 0, .slice none 0 0, .slice none 0 0] 26) := ⟨_, rfl⟩
  rw [← hw2]
  have HB2 : Hid (Below w.heap.size w w2) := by rw [hw2]; exact below_alloc (below_alloc (Below.refl _ _) _) _
  have HZ2 : Hid (w2.heap[w.heap.size + 1]? = some (.cells #[.int .i64 0, .int .i64 0, .int .i64 0, .slice none 0 0, .slice none 0 0, .slice none 0 0] 26 (0, 0))) := by rw [hw2]; exact bl_newZ (by simp)
  clear hw2
  refine calls_below (changing_bad x AW AC AT cW cC cT _ (by omega) (by omega) (by omega) (hW.below HB2.out) (hC.below HB2.out) (hT.below HB2.out) HX.out) ?_
  intro w3 hb3
  have hz := bl_below HZ2.out hb3
  have hlz := bl_lt hz
  obtain ⟨⟨z0, z1, z2, z3, z4, z5⟩, y0, y1, y2, y3, y4, y5⟩ := blc6 hz
  have hbb := below_trans HB2.out hb3
  have HZ := Lib.hid hz
  have HBB := Lib.hid hbb
  clear hz hbb hW hC hT hb3
  go_wp2
  simp only [Exit.noGoto_ret]
  refine bodyPost_ret (res_cttt Tryz.results27 (w.heap.size + 1) 26 #[.int .i64 0, .int .i64 0, .int .i64 0, .slice none 0 0, .slice none 0 0, .slice none 0 0] _ rfl (bl_all6 HZ.out _ _ _ _ _ _) Tryz.underlying26 rfl sizeNet rfl rfl rfl) rfl ⟨rfl, below_set6 HBB.out (by omega) _ _ _ _ _ _⟩

set_option maxHeartbeats 1000000 in
set_option maxRecDepth 100000 in
theorem Calm_no (x : Nt) (n k : Int) (v : Value) (w : World) (hV : NetV w v x) (hx : Ok x) (hk : n < 0 ∧ k = 1 ∨ ¬ n < 0 ∧ 1000 < n ∧ k = 1 ∨ ¬ n < 0 ∧ ¬ 1000 < n ∧ 1099511627776 < x.now + n ∧ k = 3) :
    Calls Tryz.prog 27 #[v, .int .i64 n] w fun e w' => e = .returned (.tuple #[zNetV, .slice none 0 0, .slice none 0 0, .int .i64 k]) ∧ Below w.heap.size w w' := by
  obtain ⟨AW, cW, AC, cC, AT, cT, rfl, hW, hC, hT⟩ := hV
  have hck := (ok_iff x).2 hx
  have h1 := hx.way
  have h2 := hx.cuts256
  have h3 := hx.tms
  have hnow := hx.t0
  have hnow1 := hx.t1
  have HCH : Hid (∀ W, Below w.heap.size w W → Calls Tryz.prog 36 #[.agg #[.int .i64 x.nodes, .int .i64 x.now, .int .i64 x.next, .slice AW x.way.length cW, .slice AC x.cuts.length cC, .slice AT x.timers.length cT]] W fun e w' => ∃ g, e = .returned (.tuple #[.pointer (some ⟨g, 0, none⟩), .int .i64 0]) ∧ St w' W.heap.size g x ∧ Below W.heap.size W w') := fun W hb => changing_ok x AW AC AT cW cC cT W (by omega) (by omega) (by omega) (hW.below hb) (hC.below hb) (hT.below hb) hck
  clear hW hC hT hck hx
  go_enter Tryz.func27, Tryz.ntmps27
  go_wp2
  refine wp_scope_straight ?_
  go_wp2_with fail
  obtain ⟨w2, hw2⟩ : ∃ w2, w2 = (w.alloc (.cells #[.int .i64 x.nodes, .int .i64 x.now, .int .i64 x.next, .slice AW x.way.length cW, .slice AC x.cuts.length cC, .slice AT x.timers.length cT] 26)).alloc (.cells #[.int .i64 0, .int .i64 0, .int .i64 0, .slice none 0 0, .slice none 0 0, .slice none 0 0] 26) := ⟨_, rfl⟩
  rw [← hw2]
  have HB2 : Hid (Below w.heap.size w w2) := by rw [hw2]; exact below_alloc (below_alloc (Below.refl _ _) _) _
  have HZ2 : Hid (w2.heap[w.heap.size + 1]? = some (.cells #[.int .i64 0, .int .i64 0, .int .i64 0, .slice none 0 0, .slice none 0 0, .slice none 0 0] 26 (0, 0))) := by rw [hw2]; exact bl_newZ (by simp)
  have hs2 : w2.heap.size = w.heap.size + 2 := by rw [hw2]; simp
  clear hw2
  refine (HCH.out _ HB2.out).mono ?_
  rintro e w3 ⟨g, rfl, hS3, hb3⟩
  obtain ⟨AW3, cW3, AC3, cC3, AT3, cT3, hg3, hB3, oW3, oC3, oT3⟩ := hS3.open
  obtain ⟨⟨k0, k1, k2, k3, k4, k5⟩, f0, f1, f2, f3, f4, f5⟩ := blc6 hg3
  have hlg := bl_lt hg3
  have hz := bl_below HZ2.out hb3
  have hlz := bl_lt hz
  obtain ⟨⟨z0, z1, z2, z3, z4, z5⟩, y0, y1, y2, y3, y4, y5⟩ := blc6 hz
  have hbb := below_trans HB2.out hb3
  have HZ := Lib.hid hz
  have HBB := Lib.hid hbb
  clear hz hbb hb3 oW3 oC3 oT3 hS3 hg3 f0 f1 f2 f3 f4 f5 hB3
  rcases hk with ⟨c1, rfl⟩ | ⟨c1, c2, rfl⟩ | ⟨c1, c2, c3, rfl⟩
  · have d1 : decide (n < 0) = true := decide_eq_true c1
    clear c1
    go_wp2
    simp only [Exit.noGoto_ret]
    refine bodyPost_ret (res_cttt Tryz.results27 (w.heap.size + 1) 26 #[.int .i64 0, .int .i64 0, .int .i64 0, .slice none 0 0, .slice none 0 0, .slice none 0 0] _ rfl (bl_all6 HZ.out _ _ _ _ _ _) Tryz.underlying26 rfl sizeNet rfl rfl rfl) rfl ⟨rfl, below_set6 HBB.out (by omega) _ _ _ _ _ _⟩
  · have d1 : decide (n < 0) = false := decide_eq_false (by omega)
    have d2 : decide (1000 < n) = true := decide_eq_true c2
    clear c1 c2
    go_wp2
    simp only [Exit.noGoto_ret]
    refine bodyPost_ret (res_cttt Tryz.results27 (w.heap.size + 1) 26 #[.int .i64 0, .int .i64 0, .int .i64 0, .slice none 0 0, .slice none 0 0, .slice none 0 0] _ rfl (bl_all6 HZ.out _ _ _ _ _ _) Tryz.underlying26 rfl sizeNet rfl rfl rfl) rfl ⟨rfl, below_set6 HBB.out (by omega) _ _ _ _ _ _⟩
  · have d1 : decide (n < 0) = false := decide_eq_false (by omega)
    have d2 : decide (1000 < n) = false := decide_eq_false (by omega)
    have hwr : IntKind.i64.wrap (x.now + n) = x.now + n := IntWalk.i64_in _ (by omega)
    have d3 : decide (1099511627776 < x.now + n) = true := decide_eq_true c3
    clear c1 c2 c3
    go_wp2
    simp only [Exit.noGoto_ret]
    refine bodyPost_ret (res_cttt Tryz.results27 (w.heap.size + 1) 26 #[.int .i64 0, .int .i64 0, .int .i64 0, .slice none 0 0, .slice none 0 0, .slice none 0 0] _ rfl (bl_all6 HZ.out _ _ _ _ _ _) Tryz.underlying26 rfl sizeNet rfl rfl rfl) rfl ⟨rfl, below_set6 HBB.out (by omega) _ _ _ _ _ _⟩
theorem Calm_any (x : Nt) (n : Int) (v : Value) (w : World) (hlw : x.way.length ≤ 10000000) (hlc : x.cuts.length ≤ 10000000) (hlt : x.timers.length ≤ 10000000) (hV : NetV w v x) : Calls Tryz.prog 27 #[v, .int .i64 n] w (clmQ x n w) := by
  cases hc : checkB x
  · exact (Calm_form x n v w hlw hlc hlt hV hc).mono fun e w' h => clmQ_err (by unfold calmE; rw [if_pos hc]) (by decide) h.1 h.2
  · have hx := (ok_iff x).1 hc
    have hnc : ¬ checkB x = false := by rw [hc]; decide
    by_cases c1 : n < 0
    · exact (Calm_no x n 1 v w hV hx (.inl ⟨c1, rfl⟩)).mono fun e w' h => clmQ_err (by unfold calmE; rw [if_neg hnc, if_pos (.inl c1)]) (by decide) h.1 h.2
    · by_cases c2 : 1000 < n
      · exact (Calm_no x n 1 v w hV hx (.inr (.inl ⟨c1, c2, rfl⟩))).mono fun e w' h => clmQ_err (by unfold calmE; rw [if_neg hnc, if_pos (.inr c2)]) (by decide) h.1 h.2
      · by_cases c3 : 1099511627776 < x.now + n
        · exact (Calm_no x n 3 v w hV hx (.inr (.inr ⟨c1, c2, c3, rfl⟩))).mono fun e w' h => clmQ_err (by unfold calmE; rw [if_neg hnc, if_neg (by omega), if_pos c3]) (by decide) h.1 h.2
        · obtain ⟨N, rfl⟩ := Int.eq_ofNat_of_zero_le (show 0 ≤ n by omega)
          have h0 : calmE x (N : Int) = 0 := by unfold calmE; rw [if_neg hnc, if_neg (by omega), if_neg c3]
          refine (Calm_good x N v w hV hx (by omega) (by omega)).mono fun e w' h => ?_
          obtain ⟨v, u, t, he, h1, h2, h3, h4⟩ := h
          refine ⟨v, u, t, by rw [h0]; exact he, ?_, ?_, ?_, h4⟩
          · unfold calmRX; rw [if_pos h0]; exact h1
          · unfold calmRL; rw [if_pos h0]; exact h2
          · unfold calmRT; rw [if_pos h0]; exact h3
end Go.Proofs.YthlbmcfliejdiaaGreat
end

section
set_option linter.unusedVariables false
set_option linter.unusedSimpArgs false
namespace Go.Proofs.YthlbmcfliejdiaaGreat
open Go.RowKit

theorem sizeCalmed : (Tryz.prog.info? 73).map (·.size) = some 9 := by kernel_rfl
theorem blc9 {w : World} {b : Nat} {t : TypeId} {c0 c1 c2 c3 c4 c5 c6 c7 c8 : Value} (h : w.heap[b]? = some (.cells #[c0, c1, c2, c3, c4, c5, c6, c7, c8] t (0, 0))) :
    (w.cell? ⟨b, 0, none⟩ = some c0 ∧ w.cell? ⟨b, 1, none⟩ = some c1 ∧ w.cell? ⟨b, 2, none⟩ = some c2 ∧ w.cell? ⟨b, 3, none⟩ = some c3 ∧ w.cell? ⟨b, 4, none⟩ = some c4 ∧ w.cell? ⟨b, 5, none⟩ = some c5 ∧ w.cell? ⟨b, 6, none⟩ = some c6 ∧ w.cell? ⟨b, 7, none⟩ = some c7 ∧ w.cell? ⟨b, 8, none⟩ = some c8) ∧ ∀ j, w.frozen? ⟨b, j, none⟩ = false :=
  ⟨⟨(bl_cell h 0).trans rfl, (bl_cell h 1).trans rfl, (bl_cell h 2).trans rfl, (bl_cell h 3).trans rfl, (bl_cell h 4).trans rfl, (bl_cell h 5).trans rfl, (bl_cell h 6).trans rfl, (bl_cell h 7).trans rfl, (bl_cell h 8).trans rfl⟩, fun j => bl_frozen h j⟩
theorem bl_otherT {W : World} {g k : Nat} {cs ds : Array Value} {t s : TypeId} {f1 f2 : Nat × Nat} (h : W.heap[g]? = some (.cells cs t f1)) (h' : W.heap[k]? = some (.cells ds s f2)) (hne : t ≠ s) : g ≠ k := by
  rintro rfl
  rw [h] at h'
  injection h' with h'
  injection h' with _ h2
  exact hne h2
/-- A row: one that the call was handed, or its own; the latter is not u's. -/
def RowX {α : Type} [Enc α] (w0 W : World) (e : TypeId) (v : Value) (xs : List α) (u : Value) : Prop :=
  (∃ A c, v = .slice A xs.length c ∧ Rd w0 A xs) ∨ (Own W w0.heap.size e v xs ∧ (v.ownBlock = none ∨ v.ownBlock ≠ u.ownBlock))
section
variable {α β : Type} [Enc α] [Enc β] {w0 W W' : World} {e e' : TypeId} {v u u1 : Value} {xs : List α} {ys : List β}
theorem RowX.rd {A : Option Addr} {c : Nat} (h : RowX w0 W e (.slice A xs.length c) xs u) (hb : Below w0.heap.size w0 W) : Rd W A xs := by
  rcases h with ⟨A', c', he, hr⟩ | ⟨ho, -⟩
  · cases he; exact hr.below hb
  · exact ho.rd
theorem RowX.set {p : Addr} {cs : Array Value} {t : TypeId} {f : Nat × Nat} (h : RowX w0 W e v xs u) (hp : W.heap[p.block]? = some (.cells cs t f)) (hne : e ≠ t) (z : Value) : RowX w0 (W.setCell p z) e v xs u := by
  rcases h with h | ⟨ho, hn⟩
  · exact .inl h
  · exact .inr ⟨ho.setCell (ho.ne hp hne) z, hn⟩
theorem RowX.below (h : RowX w0 W e v xs u) (hb : Below W.heap.size W W') : RowX w0 W' e v xs u := by
  rcases h with h | ⟨ho, hn⟩
  · exact .inl h
  · exact .inr ⟨ho.below hb, hn⟩
theorem RowX.grown (h : RowX w0 W e v xs u) (hg : W.grownBy W' u.ownBlock) (hat : u1.ownBlock = u.ownBlock ∨ u1.ownBlock = some W.heap.size) : RowX w0 W' e v xs u1 := by
  rcases h with h | ⟨ho, hn⟩
  · exact .inl h
  · refine .inr ⟨ho.kept hg hn, ?_⟩
    rcases hat with hat | hat
    · rw [hat]; exact hn
    · cases hv : v.ownBlock with
      | none => exact .inl rfl
      | some k => right; rw [hat]; intro hc; have := (ho.lt k hv).2; cases hc; omega
theorem RowX.other {B : Nat} {u' : Value} (h : RowX w0 W e v xs u) (ho' : Own W B e' u' ys) (hne : e ≠ e') (hg : W.grownBy W' u'.ownBlock) : RowX w0 W' e v xs u := by
  rcases h with h | ⟨ho, hn⟩
  · exact .inl h
  · exact .inr ⟨ho.kept hg (ho.ne_own ho' hne), hn⟩
theorem RowX.fresh {B1 : Nat} (ho : Own W' B1 e v xs) (hB : w0.heap.size ≤ B1) (hu : ∀ k, u.ownBlock = some k → k < B1) : RowX w0 W' e v xs u := by
  refine .inr ⟨ho.weaken hB, ?_⟩
  cases hv : v.ownBlock with
  | none => exact .inl rfl
  | some k => right; intro hc; have h1 := (ho.lt k hv).1; have h2 := hu k hc.symm; omega
theorem RowX.rowA {B1 : Nat} {v' : Value} {zs : List α} (h : RowX w0 W' e v xs u) (hA : RowA B1 W' e v v' xs zs) (hB : w0.heap.size ≤ B1) (hu : ∀ k, u.ownBlock = some k → k < B1) : RowX w0 W' e v' zs u := by
  rcases hA with ⟨h1, h2⟩ | ⟨B', hB', ho⟩
  · rw [h1, h2]; exact h
  · exact RowX.fresh (ho.weaken hB') hB hu
end
/-- What Calm keeps: the network x (its own copy in gx), what goes out (bo), the result's place (gr). -/
structure CmS (w0 : World) (gx bo gr : Nat) (y : Nt) (L : List Lt) (T : List Tm) (AW : Option Addr) (cW : Nat) (AC : Option Addr) (cC : Nat) (AT : Option Addr) (cT : Nat) (u v : Value) (W : World) : Prop where
  hx : W.heap[gx]? = some (.cells #[.int .i64 y.nodes, .int .i64 y.now, .int .i64 y.next, .slice AW y.way.length cW, .slice AC y.cuts.length cC, .slice AT y.timers.length cT] 26 (0, 0))
  ho : W.heap[bo]? = some (.cells #[.int .i64 0, .int .i64 0, .int .i64 0, .slice none 0 0, .slice none 0 0, .slice none 0 0, u, v, .int .i64 0] 73 (0, 0))
  hr : W.heap[gr]? = some (.cells #[.int .i64 0, .int .i64 0, .int .i64 0, .slice none 0 0, .slice none 0 0, .slice none 0 0, .slice none 0 0, .slice none 0 0, .int .i64 0] 73 (0, 0))
  wy : RowX w0 W 33 (.slice AW y.way.length cW) y.way u
  tm : RowX w0 W 86 (.slice AT y.timers.length cT) y.timers v
  cu : y.cuts = []
  cap : y.way.length ≤ cW
  ou : Own W w0.heap.size 33 u L
  ov : Own W w0.heap.size 86 v T
  bl : Below w0.heap.size w0 W
  lx : w0.heap.size ≤ gx
  lo : w0.heap.size ≤ bo
  ne : gr ≠ bo
section
variable {w0 W W' : World} {gx bo gr : Nat} {y : Nt} {L : List Lt} {T : List Tm} {AW AC AT : Option Addr} {cW cC cT : Nat} {u v : Value}
theorem CmS.below (h : CmS w0 gx bo gr y L T AW cW AC cC AT cT u v W) (hb : Below W.heap.size W W') : CmS w0 gx bo gr y L T AW cW AC cC AT cT u v W' :=
  ⟨bl_below h.hx hb, bl_below h.ho hb, bl_below h.hr hb, h.wy.below hb, h.tm.below hb, h.cu, h.cap, h.ou.below hb, h.ov.below hb, below_trans h.bl hb, h.lx, h.lo, h.ne⟩
theorem CmS.net (h : CmS w0 gx bo gr y L T AW cW AC cC AT cT u v W) : NetV W (.agg #[.int .i64 y.nodes, .int .i64 y.now, .int .i64 y.next, .slice AW y.way.length cW, .slice AC y.cuts.length cC, .slice AT y.timers.length cT]) y :=
  ⟨AW, cW, AC, cC, AT, cT, rfl, h.wy.rd h.bl, by rw [h.cu]; exact fun i hi => absurd hi (by simp), h.tm.rd h.bl⟩
/-- A letter more goes out. -/
theorem CmS.letters (h : CmS w0 gx bo gr y L T AW cW AC cC AT cT u v W) {v1 : Value} {L1 : List Lt} (ho : Own W' w0.heap.size 33 v1 L1) (hg : W.grownBy W' u.ownBlock) (hat : v1.ownBlock = u.ownBlock ∨ v1.ownBlock = some W.heap.size) :
    CmS w0 gx bo gr y L1 T AW cW AC cC AT cT v1 v (W'.setCell ⟨bo, 6, none⟩ v1) := by
  have hx := bl_grown h.hx hg (fun e => h.ou.ne h.hx (by decide) e.symm)
  have hoo := bl_grown h.ho hg (fun e => h.ou.ne h.ho (by decide) e.symm)
  have hr := bl_grown h.hr hg (fun e => h.ou.ne h.hr (by decide) e.symm)
  have hv := h.ov.kept hg (h.ov.ne_own h.ou (by decide))
  exact ⟨bl_far hx (bl_otherT hx hoo (by decide)) _, by simpa using bl_set hoo 6 v1, bl_far hr h.ne _, (h.wy.grown hg hat).set (p := ⟨bo, 6, none⟩) hoo (by decide) _, (h.tm.other h.ou (by decide) hg).set (p := ⟨bo, 6, none⟩) hoo (by decide) _, h.cu, h.cap,
    ho.setCell (p := ⟨bo, 6, none⟩) (ho.ne hoo (by decide)) _, hv.setCell (p := ⟨bo, 6, none⟩) (hv.ne hoo (by decide)) _, (h.bl.grown hg h.bl.size (fun k hk => (h.ou.lt k hk).1)).setCell h.lo _, h.lx, h.lo, h.ne⟩
/-- .. timers. -/
theorem CmS.timers (h : CmS w0 gx bo gr y L T AW cW AC cC AT cT u v W) {v1 : Value} {T1 : List Tm} (ho : Own W' w0.heap.size 86 v1 T1) (hg : W.grownBy W' v.ownBlock) (hat : v1.ownBlock = v.ownBlock ∨ v1.ownBlock = some W.heap.size) :
    CmS w0 gx bo gr y L T1 AW cW AC cC AT cT u v1 (W'.setCell ⟨bo, 7, none⟩ v1) := by
  have hx := bl_grown h.hx hg (fun e => h.ov.ne h.hx (by decide) e.symm)
  have hoo := bl_grown h.ho hg (fun e => h.ov.ne h.ho (by decide) e.symm)
  have hr := bl_grown h.hr hg (fun e => h.ov.ne h.hr (by decide) e.symm)
  have hu := h.ou.kept hg (h.ou.ne_own h.ov (by decide))
  exact ⟨bl_far hx (bl_otherT hx hoo (by decide)) _, by simpa using bl_set hoo 7 v1, bl_far hr h.ne _, (h.wy.other h.ov (by decide) hg).set (p := ⟨bo, 7, none⟩) hoo (by decide) _, (h.tm.grown hg hat).set (p := ⟨bo, 7, none⟩) hoo (by decide) _, h.cu, h.cap,
    hu.setCell (p := ⟨bo, 7, none⟩) (hu.ne hoo (by decide)) _, ho.setCell (p := ⟨bo, 7, none⟩) (ho.ne hoo (by decide)) _, (h.bl.grown hg h.bl.size (fun k hk => (h.ov.lt k hk).1)).setCell h.lo _, h.lx, h.lo, h.ne⟩
/-- Another network is stored. -/
theorem CmS.store (h : CmS w0 gx bo gr y L T AW cW AC cC AT cT u v W) {z : Nt} {AW2 AC2 AT2 : Option Addr} {cW2 cC2 cT2 : Nat} (hw : RowX w0 W 33 (.slice AW2 z.way.length cW2) z.way u) (ht : RowX w0 W 86 (.slice AT2 z.timers.length cT2) z.timers v) (hc : z.cuts = []) (hcap : z.way.length ≤ cW2) :
    CmS w0 gx bo gr z L T AW2 cW2 AC2 cC2 AT2 cT2 u v (set6 W gx (.int .i64 z.nodes) (.int .i64 z.now) (.int .i64 z.next) (.slice AW2 z.way.length cW2) (.slice AC2 z.cuts.length cC2) (.slice AT2 z.timers.length cT2)) := by
  have hS : ∀ {α : Type} [Enc α] {e : TypeId} {q : Value} {xs : List α} {p : Value}, RowX w0 W e q xs p → e ≠ 26 → RowX w0 (set6 W gx (.int .i64 z.nodes) (.int .i64 z.now) (.int .i64 z.next) (.slice AW2 z.way.length cW2) (.slice AC2 z.cuts.length cC2) (.slice AT2 z.timers.length cT2)) e q xs p := by
    intro α _ e q xs p hq hne
    rcases hq with hq | ⟨ho, hn⟩
    · exact .inl hq
    · exact .inr ⟨set6_own ho (ho.ne h.hx hne), hn⟩
  exact ⟨bl_all6 h.hx _ _ _ _ _ _, set6_far h.ho (bl_otherT h.ho h.hx (by decide)), set6_far h.hr (bl_otherT h.hr h.hx (by decide)), hS hw (by decide), hS ht (by decide), hc, hcap, set6_own h.ou (h.ou.ne h.hx (by decide)), set6_own h.ov (h.ov.ne h.hx (by decide)), set6_below h.bl h.lx, h.lx, h.lo, h.ne⟩
end
end Go.Proofs.YthlbmcfliejdiaaGreat
end

section
set_option linter.unusedVariables false
set_option linter.unusedSimpArgs false
namespace Go.Proofs.YthlbmcfliejdiaaGreat
open Go.RowKit

noncomputable def rcOut : Code := ((Tryz.f28.body.bind loopF).getD .skip)
noncomputable def rcIn : Code := ((loopF rcOut).getD .skip)
theorem stc_all (f : Nat → Value) : st 70 f = ⟨#[f 0, f 1, f 2, f 3, f 4, f 5, f 6, f 7, f 8, f 9, f 10, f 11, f 12, f 13, f 14, f 15, f 16, f 17, f 18, f 19, f 20, f 21, f 22, f 23, f 24, f 25, f 26, f 27, f 28, f 29, f 30, f 31, f 32, f 33, f 34, f 35, f 36, f 37, f 38, f 39, f 40, f 41, f 42, f 43, f 44, f 45, f 46, f 47, f 48, f 49, f 50, f 51, f 52, f 53, f 54, f 55, f 56, f 57, f 58, f 59, f 60, f 61, f 62, f 63, f 64, f 65, f 66, f 67, f 68, f 69], []⟩ := by rfl
/-- In the middle of a tick. -/
def rcI (w0 : World) (gx bo gr N k : Nat) (x0 : Nt) (L0 : List Lt) (T : List Tm) (v : Value) (a : Act) (W : World) : Prop :=
  ∃ f, a = st 70 f ∧ ∃ (y : Nt) (L : List Lt) (AW : Option Addr) (cW : Nat) (AC : Option Addr) (cC : Nat) (AT : Option Addr) (cT : Nat) (u : Value), f 1 = .int .i64 (N : Int) ∧ f 2 = .pointer (some ⟨gx, 0, none⟩) ∧ f 4 = .pointer (some ⟨gr, 0, none⟩) ∧ f 5 = .pointer (some ⟨bo, 0, none⟩) ∧ f 6 = .int .i64 (k : Int) ∧
    Hid (Own W w0.heap.size 3 (f 7) (intsI (rdyF y))) ∧ Hid (Dlv x0 L0 y L) ∧ Hid (CmS w0 gx bo gr y L T AW cW AC cC AT cT u v W)
def rcMu (gx : Nat) (_ : Act) (W : World) : Nat := match W.cell? ⟨gx, 3, none⟩ with
  | some (.slice _ n _) => n
  | _ => 0
theorem rcMu_is {w0 W : World} {gx bo gr : Nat} {y : Nt} {L : List Lt} {T : List Tm} {AW AC AT : Option Addr} {cW cC cT : Nat} {u v : Value} (h : CmS w0 gx bo gr y L T AW cW AC cC AT cT u v W) (a : Act) : rcMu gx a W = y.way.length := by
  unfold rcMu
  rw [bl_cell h.hx 3]; rfl
set_option maxHeartbeats 4000000 in
set_option maxRecDepth 100000 in
theorem rc_in (w0 W : World) (gx bo gr N k : Nat) (x0 : Nt) (L0 : List Lt) (T : List Tm) (v : Value) (f : Nat → Value) (Q0 : Exit → Act → World → Prop) (y : Nt) (L : List Lt) (AW : Option Addr) (cW : Nat) (AC : Option Addr) (cC : Nat) (AT : Option Addr) (cT : Nat) (Au : Option Addr) (cu : Nat) (i : Nat) (r : List Nat) (A7 : Option Addr) (c7 : Nat)
    (h1 : f 1 = .int .i64 (N : Int)) (h2 : f 2 = .pointer (some ⟨gx, 0, none⟩)) (h4 : f 4 = .pointer (some ⟨gr, 0, none⟩)) (h5 : f 5 = .pointer (some ⟨bo, 0, none⟩)) (h6 : f 6 = .int .i64 (k : Int)) (h7 : f 7 = .slice A7 (r.length + 1) c7) (hrd : Hid (rdyF y = i :: r)) (HC0 : Hid (x0.cuts = [])) (hlw : x0.way.length ≤ 1000) (hlt : x0.timers.length ≤ 1000) (hL0 : L0.length + x0.way.length ≤ 100000)
    (HO7 : Hid (Own W w0.heap.size 3 (.slice A7 (r.length + 1) c7) (intsI (rdyF y)))) (HD : Hid (Dlv x0 L0 y L)) (HS : Hid (CmS w0 gx bo gr y L T AW cW AC cC AT cT (.slice Au L.length cu) v W))
    (hQ0 : ∀ (d : Option Tmp) (v : Value) c a w, Q0 (.panic c) (a.put d v) w → Q0 (.panic c) a w) :
    rcIn.wp Tryz.prog (Exit.then (fun a' w' => rcI w0 gx bo gr N k x0 L0 T v a' w' ∧ rcMu gx a' w' < rcMu gx (st 70 f) W) Q0) (st 70 f) W := by
  conv => arg 2; whnf
  have hmu : Hid (rcMu gx (st 70 f) W = y.way.length) := rcMu_is HS.out _
  rw [hmu.out]
  rw [stc_all, h1, h2, h4, h5, h6, h7]
  clear h1 h2 h4 h5 h6 h7
  obtain ⟨l, hdl, hds, hlen⟩ := dlv_step HD.out HC0.out hrd.out
  obtain ⟨l9, hiw, -⟩ := (mem_rdy y i).1 (by rw [hrd.out]; simp)
  have hylw : y.way.length ≤ 1000 := by have := HD.out.2.2.2; omega
  have hyt : y.timers.length ≤ 1000 := by have h1 := HD.out.1; rw [h1]; exact hlt
  have hlL : L.length + y.way.length ≤ 100000 := by
    have h3 := congrArg List.length HD.out.2.2.1
    have h4 := congrArg List.length HD.out.2.1
    have hf : ∀ ws : List Lt, (dueF x0.now ws).length + (ndueF x0.now ws).length = ws.length := fun ws => by
      have := (filter_perm (fun l : Lt => decide (l.rd ≤ x0.now)) ws).length_eq
      rw [List.length_append] at this
      exact this
    have h5 := hf y.way
    have h6 := hf x0.way
    rw [List.length_append, List.length_append] at h3
    omega
  have hil := (List.getElem?_eq_some_iff.1 hiw).1
  have hri : intsI (rdyF y) = (i : Int) :: intsI r := by rw [hrd.out]; rfl
  obtain ⟨b7, o7, e7, hA7, he7, q7⟩ := HO7.out.rd.int 0 (by rw [hri]; simp)
  have he7' : e7 = (i : Int) := by have h := he7.out; rw [hri] at h; simpa using h.symm
  subst he7' hA7
  obtain ⟨bw, ow, lw, hAW, hlw', g0, g1, g2, g3, g4⟩ := (HS.out.wy.rd HS.out.bl).lt i hil
  subst hAW
  have hll : lw = l := by
    have h2 : (deliverM y i).l = l := by rw [hdl]
    unfold deliverM at h2
    rw [if_neg (by simp [hasB]; omega), Int.toNat_natCast, hlw'.out] at h2
    simp only at h2
    split at h2
    · rename_i hc0
      have : canB y lw = true := by
        obtain ⟨l3, hl3, hc3⟩ := (mem_rdy y i).1 (by rw [hrd.out]; simp)
        rw [hlw'.out] at hl3; cases hl3; exact hc3
      rw [this] at hc0; cases hc0
    · exact h2
  subst hll
  rw [Nat.add_zero] at q7
  have hb7 : b7 < W.heap.size := World.block_lt_of_cell? W _ q7
  have hbw : bw < W.heap.size := World.block_lt_of_cell? W _ g0
  have HDS := Lib.hid hds
  have HLW := Lib.hid hlen
  have HI := Lib.hid hil
  have HLL := Lib.hid hlL
  obtain ⟨⟨k0, k1, k2, k3, k4, k5⟩, -⟩ := blc6 HS.out.hx
  have hgx := bl_lt HS.out.hx
  obtain ⟨⟨d0, d1, d2, d3, d4, d5, d6, d7, d8⟩, -⟩ := blc9 HS.out.ho
  have hgo := bl_lt HS.out.ho
  have hj1 : decide ((i : Int) < (y.way.length : Int)) = true := decide_eq_true (by omega)
  have hj2 : (i : Int).toNat = i := Int.toNat_natCast i
  clear hds hdl hlen hiw hL0 he7 hri hlw'
  go_upto_region 15 with fail
  refine wp_cut (fun a wx => ∃ f', a = st 70 f' ∧ f' 1 = .int .i64 (N : Int) ∧ f' 2 = .pointer (some ⟨gx, 0, none⟩) ∧ f' 4 = .pointer (some ⟨gr, 0, none⟩) ∧ f' 5 = .pointer (some ⟨bo, 0, none⟩) ∧ f' 6 = .int .i64 (k : Int) ∧ f' 7 = .slice (some ⟨b7, o7, none⟩) (r.length + 1) c7 ∧ ∃ (A1 : Option Addr) (m1 c1 : Nat),
      Hid (CmS w0 gx bo gr y (L ++ [lw]) T (some ⟨bw, ow, none⟩) cW AC cC AT cT (.slice A1 m1 c1) v wx) ∧ Hid (Own wx w0.heap.size 3 (.slice (some ⟨b7, o7, none⟩) (r.length + 1) c7) (intsI (rdyF y)))) ?rest ?first
  case first =>
    intro J K' hJ hK'
    refine wp_mixT [(0, true), (1, true), (2, true), (3, true), (4, true), (5, true), (6, true), (7, true), (8, true), (9, false)] 10 (fun w' => Below W.heap.size W w')
      (by kernel_rfl) (by kernel_rfl) (by kernel_rfl) (by kernel_rfl) (by kernel_rfl) (fun d v c a w h => hQ0 d v c a w h) (Below.refl _ _).drew ?_
    simp only [pick, List.map_cons, List.map_nil, List.getD_cons_zero, List.getD_cons_succ, List.drop_succ_cons, List.drop_zero]
    iterate 9
      apply mix_take
      case hw => rfl
      case hy => intro W hW; obtain ⟨hwc, -⟩ := bcell hW; go_simp; try rfl
      simp only [Act.put, List.setIfInBounds_toArray, List.set_cons_zero, List.set_cons_succ]
    refine mix_do fun K2 hK2 => ?_
    go_wp2
    refine hK2 _ _ (below_alloc (Below.refl _ _).drew _) (mix_nil ?_)
    clear hK2 K2
    refine wpList_app (W.drew.alloc (.cells #[.int .i64 lw.id, .int .i64 lw.fr, .int .i64 lw.to, .int .i64 lw.rd, .string lw.data] 33)) w0.heap.size rfl (.tmp 41) (.tmp 49) 22 33 _ 48 rfl Tryz.underlying22 infoW rfl (by decide) (by decide) (.slice Au L.length cu) L [lw] (some ⟨W.heap.size, 0, none⟩) 1 rfl rfl (HS.out.ou.drew.alloc _) (Rd.new W.drew 33 lw #[.int .i64 lw.id, .int .i64 lw.fr, .int .i64 lw.to, .int .i64 lw.rd, .string lw.data] rfl) (by have := HS.out.bl.size; simp; omega) (by have := HLL.out; simp; omega) ?_
    intro v1 w6 ho hg hat
    obtain ⟨A1, c1, hv1, -, -⟩ := ho.slice
    obtain ⟨m1, hm1⟩ : ∃ m1, m1 = (L ++ [lw]).length := ⟨_, rfl⟩
    rw [← hm1] at hv1
    subst hv1
    clear hm1
    have hS1 := HS.out.below ((below_alloc (Below.refl _ W).drew (.cells #[.int .i64 lw.id, .int .i64 lw.fr, .int .i64 lw.to, .int .i64 lw.rd, .string lw.data] 33)))
    have hF := Lib.hid (hS1.letters ho hg hat)
    have hI1 := ((HO7.out.below ((below_alloc (Below.refl _ W).drew (.cells #[.int .i64 lw.id, .int .i64 lw.fr, .int .i64 lw.to, .int .i64 lw.rd, .string lw.data] 33)))).kept hg (Own.ne_own (HO7.out.below ((below_alloc (Below.refl _ W).drew (.cells #[.int .i64 lw.id, .int .i64 lw.fr, .int .i64 lw.to, .int .i64 lw.rd, .string lw.data] 33)))) hS1.ou (by decide)))
    have hoo := bl_grown hS1.ho hg (fun e => hS1.ou.ne hS1.ho (by decide) e.symm)
    have hI := Lib.hid (hI1.setCell (p := ⟨bo, 6, none⟩) (hI1.ne hoo (by decide)) (.slice A1 m1 c1))
    have q0 := bl_frozen hoo 6
    have hlg := bl_lt hoo
    obtain ⟨⟨z0, z1, z2, z3, z4, z5, z6, z7, z8⟩, -⟩ := blc9 hoo
    clear hS1 hI1 hoo ho hg hat
    go_wp2
    exact Met.intro (hJ _ _ ⟨_, st_of 70 (by rfl), rfl, rfl, rfl, rfl, rfl, rfl, A1, m1, c1, hF, hI⟩)
  case rest =>
    rintro a' wx ⟨f', rfl, h1, h2, h4, h5, h6, h7, A1, m1, c1, HS1, HI1⟩
    rw [stc_all, h1, h2, h4, h5, h6, h7]
    clear h1 h2 h4 h5 h6 h7 q7 g0 g1 g2 g3 g4 hb7 hbw k0 k1 k2 k3 k4 k5 hgx d0 d1 d2 d3 d4 d5 d6 d7 d8 hgo hj1 hj2
    have hil := HI.out
    have hri : intsI (rdyF y) = (i : Int) :: intsI r := by rw [hrd.out]; rfl
    obtain ⟨b7', o7', e7, hA7, he7, q7⟩ := HI1.out.rd.int 0 (by rw [hri]; simp)
    obtain rfl : e7 = (i : Int) := by have h := he7.out; rw [hri] at h; simpa using h.symm
    cases hA7
    rw [Nat.add_zero] at q7
    have hb7 : b7 < wx.heap.size := World.block_lt_of_cell? wx _ q7
    obtain ⟨⟨k0, k1, k2, k3, k4, k5⟩, -⟩ := blc6 HS1.out.hx
    have hgx := bl_lt HS1.out.hx
    clear he7 hri
    go_upto_region 16 with fail
    refine wp_mixT [(0, true), (1, true), (2, true), (3, true)] 4 (fun w' => Below wx.heap.size wx w')
      (by kernel_rfl) (by kernel_rfl) (by kernel_rfl) (by kernel_rfl) (by kernel_rfl) (fun d v c a w h => hQ0 d v c a w h) (Below.refl _ _).drew ?_
    simp only [pick, List.map_cons, List.map_nil, List.getD_cons_zero, List.getD_cons_succ, List.drop_succ_cons, List.drop_zero]
    iterate 4
      apply mix_take
      case hw => rfl
      case hy => intro W hW; obtain ⟨hwc, -⟩ := bcell hW; go_simp; try rfl
      simp only [Act.put, List.setIfInBounds_toArray, List.set_cons_zero, List.set_cons_succ]
    refine mix_nil ?_
    go_wp2_with fail
    refine (Rwithout_any y i (some ⟨bw, ow, none⟩) AC AT cW cC cT wx.drew (HS1.out.wy.rd HS1.out.bl).drew HS1.out.cap hil (by omega)).mono ?_
    rintro e w2 ⟨A2, c2, rfl, ho2, hc2, hb2⟩
    have hbX : Below wx.heap.size wx w2 := below_trans (Below.refl _ wx).drew hb2
    have hS2 := HS1.out.below hbX
    have hF := Lib.hid (hS2.store (z := { y with way := y.way.eraseIdx i }) (AC2 := AC) (cC2 := cC) (RowX.fresh (W' := w2) (u := .slice A1 m1 c1) ho2 (by have := HS1.out.bl.size; exact this) (fun j hj => (HS1.out.ou.lt j hj).2)) hS2.tm hS2.cu hc2)
    obtain ⟨⟨z0, z1, z2, z3, z4, z5⟩, f0, f1, f2, f3, f4, f5⟩ := blc6 hS2.hx
    have hgz := bl_lt hS2.hx
    clear hS2 ho2 hb2 hbX k0 k1 k2 k3 k4 k5 q7 hb7 hgx
    obtain ⟨m2, HM2⟩ : ∃ m2, Hid (m2 = (y.way.eraseIdx i).length) := ⟨_, rfl⟩
    rw [← HM2.out]
    go_upto_region 14 with fail
    change Code.wp _ _ _ _ (set6 w2 gx (.int .i64 y.nodes) (.int .i64 y.now) (.int .i64 y.next) (.slice A2 m2 c2) (.slice AC y.cuts.length cC) (.slice AT y.timers.length cT))
    obtain ⟨wz, hwz⟩ : ∃ wz, wz = set6 w2 gx (.int .i64 y.nodes) (.int .i64 y.now) (.int .i64 y.next) (.slice A2 m2 c2) (.slice AC y.cuts.length cC) (.slice AT y.timers.length cT) := ⟨_, rfl⟩
    have HS2 : Hid (CmS w0 gx bo gr { y with way := y.way.eraseIdx i } (L ++ [lw]) T A2 c2 AC cC AT cT (.slice A1 m1 c1) v wz) := by rw [hwz, HM2.out]; exact hF.out
    rw [← hwz]
    clear hF hwz z0 z1 z2 z3 z4 z5 f0 f1 f2 f3 f4 f5 hgz HI1 HS1 HO7 HS
    obtain ⟨z, hz⟩ : ∃ z, z = { y with way := y.way.eraseIdx i } := ⟨_, rfl⟩
    rw [← hz] at HDS HS2
    have hzl : z.way.length < y.way.length := by rw [hz]; show (y.way.eraseIdx i).length < _; have := HLW.out; omega
    obtain ⟨⟨k0, k1, k2, k3, k4, k5⟩, -⟩ := blc6 HS2.out.hx
    have hgx := bl_lt HS2.out.hx
    clear hz
    go_wp2_with fail
    refine (Rready_any z _ wz HS2.out.net (by rw [HS2.out.cu]; simp) (by omega)).mono ?_
    rintro e w3 ⟨u7, rfl, ho7, hb3⟩
    have HS3 := Lib.hid (HS2.out.below hb3)
    have HO3 := Lib.hid (ho7.weaken HS2.out.bl.size)
    clear ho7 k0 k1 k2 k3 k4 k5 hgx
    go_wp2
    refine ⟨⟨_, st_of 70 (by rfl), z, L ++ [lw], A2, c2, AC, cC, AT, cT, _, rfl, rfl, rfl, rfl, rfl, HO3, HDS, HS3⟩, ?_⟩
    rw [rcMu_is HS3.out]
    exact hzl
end Go.Proofs.YthlbmcfliejdiaaGreat
end

section
set_option linter.unusedVariables false
set_option linter.unusedSimpArgs false
namespace Go.Proofs.YthlbmcfliejdiaaGreat
open Go.RowKit

/-- Behind so many ticks. -/
def rcO (w0 : World) (gx bo gr N : Nat) (X : Nt) (a : Act) (W : World) : Prop :=
  ∃ f, a = st 70 f ∧ ∃ (k : Nat) (AW : Option Addr) (cW : Nat) (AC : Option Addr) (cC : Nat) (AT : Option Addr) (cT : Nat) (u v : Value), k ≤ N ∧ f 1 = .int .i64 (N : Int) ∧ f 2 = .pointer (some ⟨gx, 0, none⟩) ∧ f 4 = .pointer (some ⟨gr, 0, none⟩) ∧ f 5 = .pointer (some ⟨bo, 0, none⟩) ∧ f 6 = .int .i64 (k : Int) ∧
    Hid (CmS w0 gx bo gr (calmX X k) (calmL X k) (calmT X k) AW cW AC cC AT cT u v W)
def rcMo (N : Nat) (a : Act) (_ : World) : Nat := N - (intOf (a.tmps.getD 6 undef)).toNat
set_option maxHeartbeats 4000000 in
set_option maxRecDepth 100000 in
theorem rc_out (w0 W : World) (gx bo gr N k : Nat) (X x0 : Nt) (L0 : List Lt) (T0 : List Tm) (f : Nat → Value) (Q0 : Exit → Act → World → Prop) (AW : Option Addr) (cW : Nat) (AC : Option Addr) (cC : Nat) (AT : Option Addr) (cT : Nat) (Au : Option Addr) (cu : Nat) (Av : Option Addr) (cv : Nat)
    (h1 : f 1 = .int .i64 (N : Int)) (h2 : f 2 = .pointer (some ⟨gx, 0, none⟩)) (h4 : f 4 = .pointer (some ⟨gr, 0, none⟩)) (h5 : f 5 = .pointer (some ⟨bo, 0, none⟩)) (h6 : f 6 = .int .i64 (k : Int)) (hkN : k < N) (hN : N ≤ 1000)
    (HX : Hid (x0 = calmX X k)) (HL : Hid (L0 = calmL X k)) (HT : Hid (T0 = calmT X k)) (HOK : Hid (Ok x0)) (hnw : x0.now < 1099511627776) (hlL : L0.length + x0.way.length ≤ 1000) (hlT : T0.length + x0.timers.length ≤ 1000)
    (HS : Hid (CmS w0 gx bo gr x0 L0 T0 AW cW AC cC AT cT (.slice Au L0.length cu) (.slice Av T0.length cv) W))
    (hQ0 : ∀ (d : Option Tmp) (v : Value) c a w, Q0 (.panic c) (a.put d v) w → Q0 (.panic c) a w) :
    rcOut.wp Tryz.prog (Exit.then (fun a' w' => rcO w0 gx bo gr N X a' w' ∧ rcMo N a' w' < rcMo N (st 70 f) W) Q0) (st 70 f) W := by
  conv => arg 2; whnf
  have hmu : Hid (rcMo N (st 70 f) W = N - k) := by
    show _ = _
    unfold rcMo
    rw [st_getD (by decide), h6]; rfl
  rw [hmu.out]
  rw [stc_all, h1, h2, h4, h5, h6]
  clear h1 h2 h4 h5 h6
  have HC0 := Lib.hid HS.out.cu
  obtain ⟨⟨k0, k1, k2, k3, k4, k5⟩, -⟩ := blc6 HS.out.hx
  have hgx := bl_lt HS.out.hx
  go_wp2_with fail
  refine (Rready_any x0 _ W HS.out.net (by rw [HC0.out]; simp) (by omega)).mono ?_
  rintro e w3 ⟨u7, rfl, ho7, hb3⟩
  have HS3 := Lib.hid (HS.out.below hb3)
  have HO3 := Lib.hid (ho7.weaken HS.out.bl.size)
  clear ho7 k0 k1 k2 k3 k4 k5 hgx hb3 HS
  go_wp2
  refine wp_st 70 (by rfl) fun f0 hf0 => ?_
  refine wp_loop (rcI w0 gx bo gr N k x0 L0 T0 (.slice Av T0.length cv)) (rcMu gx) ⟨f0, rfl, x0, L0, AW, cW, AC, cC, AT, cT, _, (hf0 1).trans rfl, (hf0 2).trans rfl, (hf0 4).trans rfl, (hf0 5).trans rfl, (hf0 6).trans rfl, by rw [hf0 7]; exact HO3, dlv_start _ _, HS3⟩ ?_
  clear hf0 f0 HS3 HO3 AW cW AC cC AT cT Au cu
  rintro a wq ⟨f, rfl, y, L, AW, cW, AC, cC, AT, cT, u, h1, h2, h4, h5, h6, HO7, HD, HS⟩
  obtain ⟨Au, cu, rfl, -, -⟩ := HS.out.ou.slice
  cases hrd : rdyF y with
  | cons i r =>
    obtain ⟨A7, c7, h7, -, -⟩ := HO7.out.slice
    have hlr : (intsI (rdyF y)).length = r.length + 1 := by rw [hrd]; simp [intsI]
    rw [hlr] at h7
    rw [h7] at HO7
    exact rc_in w0 wq gx bo gr N k x0 L0 T0 (.slice Av T0.length cv) f _ y L AW cW AC cC AT cT Au cu i r A7 c7 h1 h2 h4 h5 h6 h7 hrd HC0 (by omega) (by omega) (by omega) HO7 HD HS (fun d _ _ _ _ h => hQ0 d _ _ _ _ h)
  | nil =>
    obtain ⟨A7, c7, h7, -, -⟩ := HO7.out.slice
    have hlr : (intsI (rdyF y)).length = 0 := by rw [hrd]; rfl
    rw [hlr] at h7
    obtain ⟨hy, hL⟩ := dlv_end HD.out HC0.out hrd
    have hlw := HD.out.2.2.2
    have hyt : y.timers = x0.timers := by rw [hy]
    have HYC := Lib.hid HS.out.cu
    have hte : (tickM y).e = 0 := by rw [hy, (tick_ways x0 _).2]; unfold tickM; rw [if_neg (by omega)]
    have htx : (tickM y).x = calm1 x0 := by rw [hy]; rfl
    have htt : (tickM y).ts = (tickM x0).ts := by rw [hy, (tick_ways x0 _).1]
    have hlt : (tickM x0).ts.length ≤ x0.timers.length := by unfold tickM; rw [if_neg (by omega)]; exact List.length_filter_le _ _
    have hOy : Ok y := by rw [hy]; exact sub_keeps HOK.out List.filter_sublist
    have hyk : formR y (tickM y) = tickM y := by unfold formR; rw [if_neg (by rw [(ok_iff y).2 hOy]; decide)]
    have htc : (tickM y).x.cuts = [] := by rw [htx]; show (tickM _).x.cuts = []; unfold tickM; split <;> first | exact HC0.out | rfl
    obtain ⟨q, hq⟩ : ∃ q, q = formR y (tickM y) := ⟨_, rfl⟩
    have htk := fun (W : World) (hW : Rd W AW y.way) (hC : Rd W AC y.cuts) (hT : Rd W AT y.timers) => RTick_rows y W AW AC AT cW cC cT hW hC hT (by rw [HYC.out]; simp) (by omega) (by rw [hyt]; omega)
    rw [← hq] at htk
    rw [← hyk, ← hq] at hte htx htt htc
    have hqt : q.ts.length ≤ x0.timers.length := by rw [htt]; exact hlt
    have HTK := Lib.hid htk
    have HQX := Lib.hid htx
    have HQT := Lib.hid htt
    have HQC := Lib.hid htc
    have HLL := Lib.hid hL
    clear htk hq hyk hOy hlt htt htx htc hte hy hL hlr hrd HD HO7 hyt
    rw [stc_all, h1, h2, h4, h5, h6, h7]
    clear h1 h2 h4 h5 h6 h7
    obtain ⟨⟨k0, k1, k2, k3, k4, k5⟩, -⟩ := blc6 HS.out.hx
    have hgx := bl_lt HS.out.hx
    go_wp2_with fail
    refine (HTK.out wq (HS.out.wy.rd HS.out.bl) (by rw [HYC.out]; exact fun i hi => absurd hi (by simp)) (HS.out.tm.rd HS.out.bl)).mono ?_
    rintro e w5 ⟨v5, rfl, ⟨AW2, cW2, AC2, cC2, AT2, cT2, AF, cF, rfl, r1, r2, r3, B4, hB4, r4⟩, hb5⟩
    have hS5 := HS.out.below hb5
    have hrw := hS5.wy.rowA r1 HS.out.bl.size (fun j hj => (HS.out.ou.lt j hj).2)
    have hrt := hS5.tm.rowA r3 HS.out.bl.size (fun j hj => (HS.out.ov.lt j hj).2)
    have HRW := Lib.hid (hrw.below (below_alloc (Below.refl _ w5) (.cells #[.int .i64 q.x.nodes, .int .i64 q.x.now, .int .i64 q.x.next, .slice AW2 q.x.way.length cW2, .slice AC2 q.x.cuts.length cC2, .slice AT2 q.x.timers.length cT2, .int .i64 q.id, .int .i64 q.l.id, .int .i64 q.l.fr, .int .i64 q.l.to, .int .i64 q.l.rd, .string q.l.data, .slice AF q.ts.length cF, .int .i64 q.e] 35)))
    have HRT := Lib.hid (hrt.below (below_alloc (Below.refl _ w5) (.cells #[.int .i64 q.x.nodes, .int .i64 q.x.now, .int .i64 q.x.next, .slice AW2 q.x.way.length cW2, .slice AC2 q.x.cuts.length cC2, .slice AT2 q.x.timers.length cT2, .int .i64 q.id, .int .i64 q.l.id, .int .i64 q.l.fr, .int .i64 q.l.to, .int .i64 q.l.rd, .string q.l.data, .slice AF q.ts.length cF, .int .i64 q.e] 35)))
    have HCP := Lib.hid (r1.cap HS.out.cap)
    have HR4 := Lib.hid (r4.below (below_alloc (Below.refl _ w5) (.cells #[.int .i64 q.x.nodes, .int .i64 q.x.now, .int .i64 q.x.next, .slice AW2 q.x.way.length cW2, .slice AC2 q.x.cuts.length cC2, .slice AT2 q.x.timers.length cT2, .int .i64 q.id, .int .i64 q.l.id, .int .i64 q.l.fr, .int .i64 q.l.to, .int .i64 q.l.rd, .string q.l.data, .slice AF q.ts.length cF, .int .i64 q.e] 35)))
    have HS6 := Lib.hid (hS5.below (below_alloc (Below.refl _ w5) (.cells #[.int .i64 q.x.nodes, .int .i64 q.x.now, .int .i64 q.x.next, .slice AW2 q.x.way.length cW2, .slice AC2 q.x.cuts.length cC2, .slice AT2 q.x.timers.length cT2, .int .i64 q.id, .int .i64 q.l.id, .int .i64 q.l.fr, .int .i64 q.l.to, .int .i64 q.l.rd, .string q.l.data, .slice AF q.ts.length cF, .int .i64 q.e] 35)))
    have HM6 := Lib.hid (bl_new w5 (.cells #[.int .i64 q.x.nodes, .int .i64 q.x.now, .int .i64 q.x.next, .slice AW2 q.x.way.length cW2, .slice AC2 q.x.cuts.length cC2, .slice AT2 q.x.timers.length cT2, .int .i64 q.id, .int .i64 q.l.id, .int .i64 q.l.fr, .int .i64 q.l.to, .int .i64 q.l.rd, .string q.l.data, .slice AF q.ts.length cF, .int .i64 q.e] 35))
    have hgl5 := bl_lt hS5.hx
    have hB4' : w0.heap.size ≤ B4 := Nat.le_trans HS.out.bl.size hB4
    clear hS5 hrw hrt r1 r2 r3 r4 hb5 k0 k1 k2 k3 k4 k5 hgx HS HTK
    go_upto_region 18 with fail
    obtain ⟨w6, hw6⟩ : ∃ w6, w6 = w5.alloc (.cells #[.int .i64 q.x.nodes, .int .i64 q.x.now, .int .i64 q.x.next, .slice AW2 q.x.way.length cW2, .slice AC2 q.x.cuts.length cC2, .slice AT2 q.x.timers.length cT2, .int .i64 q.id, .int .i64 q.l.id, .int .i64 q.l.fr, .int .i64 q.l.to, .int .i64 q.l.rd, .string q.l.data, .slice AF q.ts.length cF, .int .i64 q.e] 35) := ⟨_, rfl⟩
    obtain ⟨gm, hgm⟩ : ∃ gm, gm = w5.heap.size := ⟨_, rfl⟩
    rw [← hgm] at HM6 hgl5
    rw [← hw6] at HRW HRT HR4 HS6 HM6
    rw [← hw6, ← hgm]
    clear hw6 hgm
    have hne : gx ≠ gm := bl_otherT HS6.out.hx HM6.out (by decide)
    have hnx : ¬ gx = gm := hne
    have hnx' : ¬ gm = gx := fun h => hne h.symm
    obtain ⟨⟨k0, k1, k2, k3, k4, k5⟩, f0, f1, f2, f3, f4, f5⟩ := blc6 HS6.out.hx
    have hgx := bl_lt HS6.out.hx
    obtain ⟨⟨m0, m1, m2, m3, m4, m5, m6, m7, m8, m9, m10, m11, m12, m13⟩, -⟩ := blc14 HM6.out
    have hlm := bl_lt HM6.out
    go_upto_region 19 with fail
    change Code.wp _ _ _ _ (set6 w6 gx (.int .i64 q.x.nodes) (.int .i64 q.x.now) (.int .i64 q.x.next) (.slice AW2 q.x.way.length cW2) (.slice AC2 q.x.cuts.length cC2) (.slice AT2 q.x.timers.length cT2))
    obtain ⟨w7, hw7⟩ : ∃ w7, w7 = set6 w6 gx (.int .i64 q.x.nodes) (.int .i64 q.x.now) (.int .i64 q.x.next) (.slice AW2 q.x.way.length cW2) (.slice AC2 q.x.cuts.length cC2) (.slice AT2 q.x.timers.length cT2) := ⟨_, rfl⟩
    have HS7 := Lib.hid (HS6.out.store (AC2 := AC2) (cC2 := cC2) HRW.out HRT.out HQC.out HCP.out)
    have HR7 : Hid (Own w7 B4 86 (.slice AF q.ts.length cF) q.ts) := by rw [hw7]; exact set6_own HR4.out (HR4.out.ne HS6.out.hx (by decide))
    have HM7 : Hid (w7.heap[gm]? = some (.cells #[.int .i64 q.x.nodes, .int .i64 q.x.now, .int .i64 q.x.next, .slice AW2 q.x.way.length cW2, .slice AC2 q.x.cuts.length cC2, .slice AT2 q.x.timers.length cT2, .int .i64 q.id, .int .i64 q.l.id, .int .i64 q.l.fr, .int .i64 q.l.to, .int .i64 q.l.rd, .string q.l.data, .slice AF q.ts.length cF, .int .i64 q.e] 35 (0, 0))) := by rw [hw7]; exact set6_far HM6.out hnx'
    rw [← hw7] at HS7 ⊢
    clear hw7 k0 k1 k2 k3 k4 k5 hgx m0 m1 m2 m3 m4 m5 m6 m7 m8 m9 m10 m11 m12 m13 hlm f0 f1 f2 f3 f4 f5 HS6 HRW HRT HR4 HM6 hgl5
    obtain ⟨⟨m0, m1, m2, m3, m4, m5, m6, m7, m8, m9, m10, m11, m12, m13⟩, -⟩ := blc14 HM7.out
    have hlm := bl_lt HM7.out
    obtain ⟨⟨z0, z1, z2, z3, z4, z5, z6, z7, z8⟩, -⟩ := blc9 HS7.out.ho
    have hlo := bl_lt HS7.out.ho
    go_wp2_with (at_builtin; refine hid_stop ?_)
    refine wpList_app w7 w0.heap.size rfl (.tmp 62) (.tmp 64) 24 86 _ 24 rfl Tryz.underlying24 infoT rfl (by decide) (by decide) (.slice Av T0.length cv) T0 q.ts AF cF rfl rfl HS7.out.ov HR7.out.rd HS7.out.bl.size (by omega) ?_
    intro v1 w8 ho hg hat
    obtain ⟨A1, c1, hv1, -, -⟩ := ho.slice
    obtain ⟨n1, hn1⟩ : ∃ n1, n1 = (T0 ++ q.ts).length := ⟨_, rfl⟩
    rw [← hn1] at hv1
    subst hv1
    clear hn1
    have hF := Lib.hid (HS7.out.timers ho hg hat)
    have hoo := bl_grown HS7.out.ho hg (fun e => HS7.out.ov.ne HS7.out.ho (by decide) e.symm)
    have q0 := bl_frozen hoo 7
    have q1 := (bl_cell hoo 7).trans rfl
    have hlg := bl_lt hoo
    clear hoo ho hg hat m0 m1 m2 m3 m4 m5 m6 m7 m8 m9 m10 m11 m12 m13 hlm z0 z1 z2 z3 z4 z5 z6 z7 z8 hlo HM7 HR7 HS7
    go_wp2
    refine ⟨⟨_, st_of 70 (by rfl), k + 1, AW2, cW2, AC2, cC2, AT2, cT2, .slice Au L.length cu, .slice A1 n1 c1, by omega, rfl, rfl, rfl, rfl, by show _ = Value.int .i64 _; go_num, ?_⟩, ?_⟩
    · have e1 : calmX X (k + 1) = q.x := by show calm1 (calmX X k) = _; rw [HQX.out, ← HX.out]
      have e2 : calmL X (k + 1) = L := by show calmL X k ++ dueF (calmX X k).now (calmX X k).way = _; rw [← HL.out, ← HX.out, HLL.out]
      have e3 : calmT X (k + 1) = T0 ++ q.ts := by show calmT X k ++ (tickM (calmX X k)).ts = _; rw [← HT.out, ← HX.out, HQT.out]
      rw [e1, e2, e3]
      exact hF
    · show N - (intOf (.int .i64 ((k : Int) + 1))).toNat < N - k
      simp [intOf]; omega
end Go.Proofs.YthlbmcfliejdiaaGreat
end

section
set_option linter.unusedVariables false
set_option linter.unusedSimpArgs false
namespace Go.Proofs.YthlbmcfliejdiaaGreat
open Go.RowKit

section
variable {w w0 : World} {g B : Nat} {t : TypeId} {a0 a1 a2 a3 a4 a5 a6 a7 a8 : Value}
def set9 (w : World) (g : Nat) (a0 a1 a2 a3 a4 a5 a6 a7 a8 : Value) : World := (((set6 w g a0 a1 a2 a3 a4 a5).setCell ⟨g, 6, none⟩ a6).setCell ⟨g, 7, none⟩ a7).setCell ⟨g, 8, none⟩ a8
theorem set6_all9 {fr : Nat × Nat} {c0 c1 c2 c3 c4 c5 c6 c7 c8 : Value} (h : w.heap[g]? = some (.cells #[c0, c1, c2, c3, c4, c5, c6, c7, c8] t fr)) : (set6 w g a0 a1 a2 a3 a4 a5).heap[g]? = some (.cells #[a0, a1, a2, a3, a4, a5, c6, c7, c8] t fr) := by
  unfold set6
  simpa using bl_set (bl_set (bl_set (bl_set (bl_set (bl_set h 0 a0) 1 a1) 2 a2) 3 a3) 4 a4) 5 a5
theorem set9_all {fr : Nat × Nat} {c0 c1 c2 c3 c4 c5 c6 c7 c8 : Value} (h : w.heap[g]? = some (.cells #[c0, c1, c2, c3, c4, c5, c6, c7, c8] t fr)) : (set9 w g a0 a1 a2 a3 a4 a5 a6 a7 a8).heap[g]? = some (.cells #[a0, a1, a2, a3, a4, a5, a6, a7, a8] t fr) := by
  unfold set9
  simpa using bl_set (bl_set (bl_set (set6_all9 h) 6 a6) 7 a7) 8 a8
theorem set9_below (h : Below B w0 w) (hb : B ≤ g) : Below B w0 (set9 w g a0 a1 a2 a3 a4 a5 a6 a7 a8) := (((set6_below h hb).setCell hb _).setCell hb _).setCell hb _
theorem set9_own {α : Type} [Enc α] {e : TypeId} {v : Value} {xs : List α} (h : Own w B e v xs) (hne : v.ownBlock ≠ some g) : Own (set9 w g a0 a1 a2 a3 a4 a5 a6 a7 a8) B e v xs :=
  (((set6_own h hne).setCell (p := ⟨g, 6, none⟩) hne _).setCell (p := ⟨g, 7, none⟩) hne _).setCell (p := ⟨g, 8, none⟩) hne _
theorem RowX.set6 {α : Type} [Enc α] {W : World} {e : TypeId} {v : Value} {xs : List α} {u : Value} {cs : Array Value} {f : Nat × Nat} (h : RowX w0 W e v xs u) (hp : W.heap[g]? = some (.cells cs t f)) (hne : e ≠ t) : RowX w0 (set6 W g a0 a1 a2 a3 a4 a5) e v xs u := by
  rcases h with h | ⟨ho, hn⟩
  · exact .inl h
  · exact .inr ⟨set6_own ho (ho.ne hp hne), hn⟩
theorem RowX.set9 {α : Type} [Enc α] {W : World} {e : TypeId} {v : Value} {xs : List α} {u : Value} {cs : Array Value} {f : Nat × Nat} (h : RowX w0 W e v xs u) (hp : W.heap[g]? = some (.cells cs t f)) (hne : e ≠ t) : RowX w0 (set9 W g a0 a1 a2 a3 a4 a5 a6 a7 a8) e v xs u := by
  rcases h with h | ⟨ho, hn⟩
  · exact .inl h
  · exact .inr ⟨set9_own ho (ho.ne hp hne), hn⟩
end
set_option maxHeartbeats 1000000 in
set_option maxRecDepth 100000 in
theorem RCalm_form (x : Nt) (w : World) (AW AC AT : Option Addr) (cW cC cT : Nat) (n : Int) (hW : Rd w AW x.way) (hC : Rd w AC x.cuts) (hT : Rd w AT x.timers) (hlc : x.cuts.length ≤ 10000000) (hlw : x.way.length ≤ 10000000) (hlt : x.timers.length ≤ 10000000) (hx : checkB x = false) :
    Calls Tryz.prog 28 #[.agg #[.int .i64 x.nodes, .int .i64 x.now, .int .i64 x.next, .slice AW x.way.length cW, .slice AC x.cuts.length cC, .slice AT x.timers.length cT], .int .i64 n] w fun e w' => e = .returned (.agg #[.int .i64 0, .int .i64 0, .int .i64 0, .slice none 0 0, .slice none 0 0, .slice none 0 0, .slice none 0 0, .slice none 0 0, .int .i64 2]) ∧ Below w.heap.size w w' := by
  have his := fun (v : Value) (w : World) (hV : NetV w v x) => RIs_any x v w hV hlc hlw hlt
  rw [hx] at his
  have HIS := Lib.hid his
  obtain ⟨w2, hw2⟩ : ∃ w2, w2 = (w.alloc (.cells #[.int .i64 x.nodes, .int .i64 x.now, .int .i64 x.next, .slice AW x.way.length cW, .slice AC x.cuts.length cC, .slice AT x.timers.length cT] 26)).alloc (.cells #[.int .i64 0, .int .i64 0, .int .i64 0, .slice none 0 0, .slice none 0 0, .slice none 0 0, .slice none 0 0, .slice none 0 0, .int .i64 0] 73) := ⟨_, rfl⟩
  have HB2 : Hid (Below w.heap.size w w2) := by rw [hw2]; exact below_alloc (below_alloc (Below.refl _ _) _) _
  have HX2 : Hid (w2.heap[w.heap.size]? = some (.cells #[.int .i64 x.nodes, .int .i64 x.now, .int .i64 x.next, .slice AW x.way.length cW, .slice AC x.cuts.length cC, .slice AT x.timers.length cT] 26 (0, 0))) := by rw [hw2]; exact bl_alloc (bl_new _ _) _
  have HR2 : Hid (w2.heap[w.heap.size + 1]? = some (.cells #[.int .i64 0, .int .i64 0, .int .i64 0, .slice none 0 0, .slice none 0 0, .slice none 0 0, .slice none 0 0, .slice none 0 0, .int .i64 0] 73 (0, 0))) := by rw [hw2]; exact bl_new2 _ _ _
  have HV : Hid (NetV w2 (.agg #[.int .i64 x.nodes, .int .i64 x.now, .int .i64 x.next, .slice AW x.way.length cW, .slice AC x.cuts.length cC, .slice AT x.timers.length cT]) x) := ⟨AW, cW, AC, cC, AT, cT, rfl, hW.below HB2.out, hC.below HB2.out, hT.below HB2.out⟩
  have HW2 := Lib.hid hw2
  clear his hw2 hW hC hT
  go_enter Tryz.func28, Tryz.ntmps28
  go_wp2_with fail
  rw [← HW2.out]
  clear HW2
  refine calls_below (HIS.out _ _ HV.out) ?_
  intro w3 hb3
  have hz := bl_below HR2.out hb3
  have hx := bl_below HX2.out hb3
  have hbb := below_trans HB2.out hb3
  obtain ⟨⟨z0, z1, z2, z3, z4, z5, z6, z7, z8⟩, y⟩ := blc9 hz
  obtain ⟨⟨k0, k1, k2, k3, k4, k5⟩, -⟩ := blc6 hx
  have y0 := y 0
  have y1 := y 1
  have y2 := y 2
  have y3 := y 3
  have y4 := y 4
  have y5 := y 5
  have y6 := y 6
  have y7 := y 7
  have y8 := y 8
  have hlz := bl_lt hz
  have hlx := bl_lt hx
  have HZ := Lib.hid hz
  have HBB := Lib.hid hbb
  clear hz hx hbb hb3 y HIS
  go_wp2
  exact ret_c Tryz.results28 (w.heap.size + 1) 73 #[.int .i64 0, .int .i64 0, .int .i64 0, .slice none 0 0, .slice none 0 0, .slice none 0 0, .slice none 0 0, .slice none 0 0, .int .i64 2] _ rfl (set9_all HZ.out) Tryz.underlying73 rfl sizeCalmed rfl ⟨rfl, set9_below HBB.out (by omega)⟩
set_option maxHeartbeats 1000000 in
set_option maxRecDepth 100000 in
theorem RCalm_neg (x : Nt) (w : World) (AW AC AT : Option Addr) (cW cC cT : Nat) (n : Int) (hW : Rd w AW x.way) (hC : Rd w AC x.cuts) (hT : Rd w AT x.timers) (hlc : x.cuts.length ≤ 10000000) (hlw : x.way.length ≤ 10000000) (hlt : x.timers.length ≤ 10000000) (hx : checkB x = true) (hn : n < 0) :
    Calls Tryz.prog 28 #[.agg #[.int .i64 x.nodes, .int .i64 x.now, .int .i64 x.next, .slice AW x.way.length cW, .slice AC x.cuts.length cC, .slice AT x.timers.length cT], .int .i64 n] w fun e w' => e = .returned (.agg #[.int .i64 0, .int .i64 0, .int .i64 0, .slice none 0 0, .slice none 0 0, .slice none 0 0, .slice none 0 0, .slice none 0 0, .int .i64 1]) ∧ Below w.heap.size w w' := by
  have his := fun (v : Value) (w : World) (hV : NetV w v x) => RIs_any x v w hV hlc hlw hlt
  rw [hx] at his
  have d1 : decide (n < 0) = true := decide_eq_true hn
  clear hn
  have HIS := Lib.hid his
  obtain ⟨w2, hw2⟩ : ∃ w2, w2 = (w.alloc (.cells #[.int .i64 x.nodes, .int .i64 x.now, .int .i64 x.next, .slice AW x.way.length cW, .slice AC x.cuts.length cC, .slice AT x.timers.length cT] 26)).alloc (.cells #[.int .i64 0, .int .i64 0, .int .i64 0, .slice none 0 0, .slice none 0 0, .slice none 0 0, .slice none 0 0, .slice none 0 0, .int .i64 0] 73) := ⟨_, rfl⟩
  have HB2 : Hid (Below w.heap.size w w2) := by rw [hw2]; exact below_alloc (below_alloc (Below.refl _ _) _) _
  have HX2 : Hid (w2.heap[w.heap.size]? = some (.cells #[.int .i64 x.nodes, .int .i64 x.now, .int .i64 x.next, .slice AW x.way.length cW, .slice AC x.cuts.length cC, .slice AT x.timers.length cT] 26 (0, 0))) := by rw [hw2]; exact bl_alloc (bl_new _ _) _
  have HR2 : Hid (w2.heap[w.heap.size + 1]? = some (.cells #[.int .i64 0, .int .i64 0, .int .i64 0, .slice none 0 0, .slice none 0 0, .slice none 0 0, .slice none 0 0, .slice none 0 0, .int .i64 0] 73 (0, 0))) := by rw [hw2]; exact bl_new2 _ _ _
  have HV : Hid (NetV w2 (.agg #[.int .i64 x.nodes, .int .i64 x.now, .int .i64 x.next, .slice AW x.way.length cW, .slice AC x.cuts.length cC, .slice AT x.timers.length cT]) x) := ⟨AW, cW, AC, cC, AT, cT, rfl, hW.below HB2.out, hC.below HB2.out, hT.below HB2.out⟩
  have HW2 := Lib.hid hw2
  clear his hw2 hW hC hT
  go_enter Tryz.func28, Tryz.ntmps28
  go_wp2_with fail
  rw [← HW2.out]
  clear HW2
  refine calls_below (HIS.out _ _ HV.out) ?_
  intro w3 hb3
  have hz := bl_below HR2.out hb3
  have hx := bl_below HX2.out hb3
  have hbb := below_trans HB2.out hb3
  obtain ⟨⟨z0, z1, z2, z3, z4, z5, z6, z7, z8⟩, y⟩ := blc9 hz
  obtain ⟨⟨k0, k1, k2, k3, k4, k5⟩, -⟩ := blc6 hx
  have y0 := y 0
  have y1 := y 1
  have y2 := y 2
  have y3 := y 3
  have y4 := y 4
  have y5 := y 5
  have y6 := y 6
  have y7 := y 7
  have y8 := y 8
  have hlz := bl_lt hz
  have hlx := bl_lt hx
  have HZ := Lib.hid hz
  have HBB := Lib.hid hbb
  clear hz hx hbb hb3 y HIS
  go_wp2
  exact ret_c Tryz.results28 (w.heap.size + 1) 73 #[.int .i64 0, .int .i64 0, .int .i64 0, .slice none 0 0, .slice none 0 0, .slice none 0 0, .slice none 0 0, .slice none 0 0, .int .i64 1] _ rfl (set9_all HZ.out) Tryz.underlying73 rfl sizeCalmed rfl ⟨rfl, set9_below HBB.out (by omega)⟩
set_option maxHeartbeats 1000000 in
set_option maxRecDepth 100000 in
theorem RCalm_far (x : Nt) (w : World) (AW AC AT : Option Addr) (cW cC cT : Nat) (n : Int) (hW : Rd w AW x.way) (hC : Rd w AC x.cuts) (hT : Rd w AT x.timers) (hlc : x.cuts.length ≤ 10000000) (hlw : x.way.length ≤ 10000000) (hlt : x.timers.length ≤ 10000000) (hx : checkB x = true) (hn : ¬ n < 0) (hm : 1000 < n) :
    Calls Tryz.prog 28 #[.agg #[.int .i64 x.nodes, .int .i64 x.now, .int .i64 x.next, .slice AW x.way.length cW, .slice AC x.cuts.length cC, .slice AT x.timers.length cT], .int .i64 n] w fun e w' => e = .returned (.agg #[.int .i64 0, .int .i64 0, .int .i64 0, .slice none 0 0, .slice none 0 0, .slice none 0 0, .slice none 0 0, .slice none 0 0, .int .i64 1]) ∧ Below w.heap.size w w' := by
  have his := fun (v : Value) (w : World) (hV : NetV w v x) => RIs_any x v w hV hlc hlw hlt
  rw [hx] at his
  have d1 : decide (n < 0) = false := decide_eq_false hn
  have d2 : decide (1000 < n) = true := decide_eq_true hm
  clear hn hm
  have HIS := Lib.hid his
  obtain ⟨w2, hw2⟩ : ∃ w2, w2 = (w.alloc (.cells #[.int .i64 x.nodes, .int .i64 x.now, .int .i64 x.next, .slice AW x.way.length cW, .slice AC x.cuts.length cC, .slice AT x.timers.length cT] 26)).alloc (.cells #[.int .i64 0, .int .i64 0, .int .i64 0, .slice none 0 0, .slice none 0 0, .slice none 0 0, .slice none 0 0, .slice none 0 0, .int .i64 0] 73) := ⟨_, rfl⟩
  have HB2 : Hid (Below w.heap.size w w2) := by rw [hw2]; exact below_alloc (below_alloc (Below.refl _ _) _) _
  have HX2 : Hid (w2.heap[w.heap.size]? = some (.cells #[.int .i64 x.nodes, .int .i64 x.now, .int .i64 x.next, .slice AW x.way.length cW, .slice AC x.cuts.length cC, .slice AT x.timers.length cT] 26 (0, 0))) := by rw [hw2]; exact bl_alloc (bl_new _ _) _
  have HR2 : Hid (w2.heap[w.heap.size + 1]? = some (.cells #[.int .i64 0, .int .i64 0, .int .i64 0, .slice none 0 0, .slice none 0 0, .slice none 0 0, .slice none 0 0, .slice none 0 0, .int .i64 0] 73 (0, 0))) := by rw [hw2]; exact bl_new2 _ _ _
  have HV : Hid (NetV w2 (.agg #[.int .i64 x.nodes, .int .i64 x.now, .int .i64 x.next, .slice AW x.way.length cW, .slice AC x.cuts.length cC, .slice AT x.timers.length cT]) x) := ⟨AW, cW, AC, cC, AT, cT, rfl, hW.below HB2.out, hC.below HB2.out, hT.below HB2.out⟩
  have HW2 := Lib.hid hw2
  clear his hw2 hW hC hT
  go_enter Tryz.func28, Tryz.ntmps28
  go_wp2_with fail
  rw [← HW2.out]
  clear HW2
  refine calls_below (HIS.out _ _ HV.out) ?_
  intro w3 hb3
  have hz := bl_below HR2.out hb3
  have hx := bl_below HX2.out hb3
  have hbb := below_trans HB2.out hb3
  obtain ⟨⟨z0, z1, z2, z3, z4, z5, z6, z7, z8⟩, y⟩ := blc9 hz
  obtain ⟨⟨k0, k1, k2, k3, k4, k5⟩, -⟩ := blc6 hx
  have y0 := y 0
  have y1 := y 1
  have y2 := y 2
  have y3 := y 3
  have y4 := y 4
  have y5 := y 5
  have y6 := y 6
  have y7 := y 7
  have y8 := y 8
  have hlz := bl_lt hz
  have hlx := bl_lt hx
  have HZ := Lib.hid hz
  have HBB := Lib.hid hbb
  clear hz hx hbb hb3 y HIS
  go_wp2
  exact ret_c Tryz.results28 (w.heap.size + 1) 73 #[.int .i64 0, .int .i64 0, .int .i64 0, .slice none 0 0, .slice none 0 0, .slice none 0 0, .slice none 0 0, .slice none 0 0, .int .i64 1] _ rfl (set9_all HZ.out) Tryz.underlying73 rfl sizeCalmed rfl ⟨rfl, set9_below HBB.out (by omega)⟩
set_option maxHeartbeats 1000000 in
set_option maxRecDepth 100000 in
theorem RCalm_lim (x : Nt) (w : World) (AW AC AT : Option Addr) (cW cC cT : Nat) (n : Int) (hW : Rd w AW x.way) (hC : Rd w AC x.cuts) (hT : Rd w AT x.timers) (hlc : x.cuts.length ≤ 10000000) (hlw : x.way.length ≤ 10000000) (hlt : x.timers.length ≤ 10000000) (hx : checkB x = true) (hn : ¬ n < 0) (hm : ¬ 1000 < n) (hk : 1099511627776 < x.now + n) :
    Calls Tryz.prog 28 #[.agg #[.int .i64 x.nodes, .int .i64 x.now, .int .i64 x.next, .slice AW x.way.length cW, .slice AC x.cuts.length cC, .slice AT x.timers.length cT], .int .i64 n] w fun e w' => e = .returned (.agg #[.int .i64 0, .int .i64 0, .int .i64 0, .slice none 0 0, .slice none 0 0, .slice none 0 0, .slice none 0 0, .slice none 0 0, .int .i64 3]) ∧ Below w.heap.size w w' := by
  have his := fun (v : Value) (w : World) (hV : NetV w v x) => RIs_any x v w hV hlc hlw hlt
  rw [hx] at his
  have hox := (ok_iff x).1 hx
  have hx0 := hox.t0
  have hx1 := hox.t1
  have hwr : IntKind.i64.wrap (x.now + n) = x.now + n := IntWalk.i64_in _ (by omega)
  have d1 : decide (n < 0) = false := decide_eq_false hn
  have d2 : decide (1000 < n) = false := decide_eq_false hm
  have d3 : decide (1099511627776 < x.now + n) = true := decide_eq_true hk
  clear hn hm hk hx0 hx1 hox
  have HIS := Lib.hid his
  obtain ⟨w2, hw2⟩ : ∃ w2, w2 = (w.alloc (.cells #[.int .i64 x.nodes, .int .i64 x.now, .int .i64 x.next, .slice AW x.way.length cW, .slice AC x.cuts.length cC, .slice AT x.timers.length cT] 26)).alloc (.cells #[.int .i64 0, .int .i64 0, .int .i64 0, .slice none 0 0, .slice none 0 0, .slice none 0 0, .slice none 0 0, .slice none 0 0, .int .i64 0] 73) := ⟨_, rfl⟩
  have HB2 : Hid (Below w.heap.size w w2) := by rw [hw2]; exact below_alloc (below_alloc (Below.refl _ _) _) _
  have HX2 : Hid (w2.heap[w.heap.size]? = some (.cells #[.int .i64 x.nodes, .int .i64 x.now, .int .i64 x.next, .slice AW x.way.length cW, .slice AC x.cuts.length cC, .slice AT x.timers.length cT] 26 (0, 0))) := by rw [hw2]; exact bl_alloc (bl_new _ _) _
  have HR2 : Hid (w2.heap[w.heap.size + 1]? = some (.cells #[.int .i64 0, .int .i64 0, .int .i64 0, .slice none 0 0, .slice none 0 0, .slice none 0 0, .slice none 0 0, .slice none 0 0, .int .i64 0] 73 (0, 0))) := by rw [hw2]; exact bl_new2 _ _ _
  have HV : Hid (NetV w2 (.agg #[.int .i64 x.nodes, .int .i64 x.now, .int .i64 x.next, .slice AW x.way.length cW, .slice AC x.cuts.length cC, .slice AT x.timers.length cT]) x) := ⟨AW, cW, AC, cC, AT, cT, rfl, hW.below HB2.out, hC.below HB2.out, hT.below HB2.out⟩
  have HW2 := Lib.hid hw2
  clear his hw2 hW hC hT
  go_enter Tryz.func28, Tryz.ntmps28
  go_wp2_with fail
  rw [← HW2.out]
  clear HW2
  refine calls_below (HIS.out _ _ HV.out) ?_
  intro w3 hb3
  have hz := bl_below HR2.out hb3
  have hx := bl_below HX2.out hb3
  have hbb := below_trans HB2.out hb3
  obtain ⟨⟨z0, z1, z2, z3, z4, z5, z6, z7, z8⟩, y⟩ := blc9 hz
  obtain ⟨⟨k0, k1, k2, k3, k4, k5⟩, -⟩ := blc6 hx
  have y0 := y 0
  have y1 := y 1
  have y2 := y 2
  have y3 := y 3
  have y4 := y 4
  have y5 := y 5
  have y6 := y 6
  have y7 := y 7
  have y8 := y 8
  have hlz := bl_lt hz
  have hlx := bl_lt hx
  have HZ := Lib.hid hz
  have HBB := Lib.hid hbb
  clear hz hx hbb hb3 y HIS
  go_wp2
  exact ret_c Tryz.results28 (w.heap.size + 1) 73 #[.int .i64 0, .int .i64 0, .int .i64 0, .slice none 0 0, .slice none 0 0, .slice none 0 0, .slice none 0 0, .slice none 0 0, .int .i64 3] _ rfl (set9_all HZ.out) Tryz.underlying73 rfl sizeCalmed rfl ⟨rfl, set9_below HBB.out (by omega)⟩

set_option maxHeartbeats 4000000 in
set_option maxRecDepth 100000 in
theorem RCalm_good (x : Nt) (w : World) (AW AC AT : Option Addr) (cW cC cT : Nat) (N : Nat) (hW : Rd w AW x.way) (hC : Rd w AC x.cuts) (hT : Rd w AT x.timers) (hcap : x.way.length ≤ cW) (hx : Ok x) (hN : N ≤ 1000) (hlim : x.now + N ≤ 1099511627776) :
    Calls Tryz.prog 28 #[.agg #[.int .i64 x.nodes, .int .i64 x.now, .int .i64 x.next, .slice AW x.way.length cW, .slice AC x.cuts.length cC, .slice AT x.timers.length cT], .int .i64 (N : Int)] w fun e w' => ∃ AW2 cW2 AC2 cC2 AT2 cT2 u v, e = .returned (.agg #[.int .i64 (calmX (noCut x) N).nodes, .int .i64 (calmX (noCut x) N).now, .int .i64 (calmX (noCut x) N).next, .slice AW2 (calmX (noCut x) N).way.length cW2, .slice AC2 (calmX (noCut x) N).cuts.length cC2, .slice AT2 (calmX (noCut x) N).timers.length cT2, u, v, .int .i64 0]) ∧ NetV w' (.agg #[.int .i64 (calmX (noCut x) N).nodes, .int .i64 (calmX (noCut x) N).now, .int .i64 (calmX (noCut x) N).next, .slice AW2 (calmX (noCut x) N).way.length cW2, .slice AC2 (calmX (noCut x) N).cuts.length cC2, .slice AT2 (calmX (noCut x) N).timers.length cT2]) (calmX (noCut x) N) ∧ Own w' w.heap.size 33 u (calmL (noCut x) N) ∧ Own w' w.heap.size 86 v (calmT (noCut x) N) ∧ Below w.heap.size w w' := by
  obtain ⟨Y, HY⟩ : ∃ Y, Hid (Y = calmX (noCut x) N) := ⟨_, rfl⟩
  obtain ⟨L, HL⟩ : ∃ L, Hid (L = calmL (noCut x) N) := ⟨_, rfl⟩
  obtain ⟨T, HTT⟩ : ∃ T, Hid (T = calmT (noCut x) N) := ⟨_, rfl⟩
  rw [← HY.out, ← HL.out, ← HTT.out]
  have hck := (ok_iff x).2 hx
  have h1 := hx.way
  have h2 := hx.cuts256
  have h3 := hx.tms
  have hnow := hx.t0
  have his := fun (v : Value) (w : World) (hV : NetV w v x) => RIs_any x v w hV (by omega) (by omega) (by omega)
  rw [hck] at his
  have HIS := Lib.hid his
  have HOK : Hid (Ok (noCut x)) := nocut_ok hx
  have HWA := Lib.hid hW
  have HTA := Lib.hid hT
  have d1 : decide ((N : Int) < 0) = false := decide_eq_false (by omega)
  have d2 : decide ((1000 : Int) < (N : Int)) = false := decide_eq_false (by omega)
  have hwr : IntKind.i64.wrap (x.now + (N : Int)) = x.now + (N : Int) := IntWalk.i64_in _ (by omega)
  have d3 : decide (1099511627776 < x.now + (N : Int)) = false := decide_eq_false (by omega)
  obtain ⟨w2, hw2⟩ : ∃ w2, w2 = (w.alloc (.cells #[.int .i64 x.nodes, .int .i64 x.now, .int .i64 x.next, .slice AW x.way.length cW, .slice AC x.cuts.length cC, .slice AT x.timers.length cT] 26)).alloc (.cells #[.int .i64 0, .int .i64 0, .int .i64 0, .slice none 0 0, .slice none 0 0, .slice none 0 0, .slice none 0 0, .slice none 0 0, .int .i64 0] 73) := ⟨_, rfl⟩
  have HB2 : Hid (Below w.heap.size w w2) := by rw [hw2]; exact below_alloc (below_alloc (Below.refl _ _) _) _
  have HX2 : Hid (w2.heap[w.heap.size]? = some (.cells #[.int .i64 x.nodes, .int .i64 x.now, .int .i64 x.next, .slice AW x.way.length cW, .slice AC x.cuts.length cC, .slice AT x.timers.length cT] 26 (0, 0))) := by rw [hw2]; exact bl_alloc (bl_new _ _) _
  have HR2 : Hid (w2.heap[w.heap.size + 1]? = some (.cells #[.int .i64 0, .int .i64 0, .int .i64 0, .slice none 0 0, .slice none 0 0, .slice none 0 0, .slice none 0 0, .slice none 0 0, .int .i64 0] 73 (0, 0))) := by rw [hw2]; exact bl_new2 _ _ _
  have HV : Hid (NetV w2 (.agg #[.int .i64 x.nodes, .int .i64 x.now, .int .i64 x.next, .slice AW x.way.length cW, .slice AC x.cuts.length cC, .slice AT x.timers.length cT]) x) := ⟨AW, cW, AC, cC, AT, cT, rfl, hW.below HB2.out, hC.below HB2.out, hT.below HB2.out⟩
  have hs2 : w2.heap.size = w.heap.size + 2 := by rw [hw2]; simp
  have HW2 := Lib.hid hw2
  clear his hw2 hW hC hT hck
  go_enter Tryz.func28, Tryz.ntmps28
  go_wp2_with fail
  rw [← HW2.out]
  clear HW2
  refine calls_below (HIS.out _ _ HV.out) ?_
  intro w3 hb3
  have hz := bl_below HR2.out hb3
  have hxx := bl_below HX2.out hb3
  have hbb := below_trans HB2.out hb3
  have hs3 := hb3.size
  obtain ⟨⟨k0, k1, k2, k3, k4, k5⟩, -, -, -, -, f4, -⟩ := blc6 hxx
  have hlx := bl_lt hxx
  clear hb3 HIS
  have HZ := Lib.hid hz
  have HXX := Lib.hid hxx
  have HBB := Lib.hid hbb
  clear hz hxx hbb
  go_upto_region 9 with fail
  obtain ⟨w4, hw4⟩ : ∃ w4, w4 = (w3.setCell ⟨w.heap.size, 4, none⟩ (.slice none 0 0)).alloc (.cells #[.int .i64 0, .int .i64 0, .int .i64 0, .slice none 0 0, .slice none 0 0, .slice none 0 0, .slice none 0 0, .slice none 0 0, .int .i64 0] 73) := ⟨_, rfl⟩
  have HS4 : Hid (CmS w w.heap.size w3.heap.size (w.heap.size + 1) (noCut x) [] [] AW cW none 0 AT cT (.slice none 0 0) (.slice none 0 0) w4) := by
    rw [hw4]
    refine ⟨bl_alloc (by simpa [noCut] using bl_set HXX.out 4 (.slice none 0 0)) _, by have := bl_new (w3.setCell ⟨w.heap.size, 4, none⟩ (.slice none 0 0)) (.cells #[.int .i64 0, .int .i64 0, .int .i64 0, .slice none 0 0, .slice none 0 0, .slice none 0 0, .slice none 0 0, .slice none 0 0, .int .i64 0] 73); rw [show (w3.setCell ⟨w.heap.size, 4, none⟩ (.slice none 0 0)).heap.size = w3.heap.size by simp [World.setCell]] at this; exact this, bl_alloc (bl_far HZ.out (show w.heap.size + 1 ≠ w.heap.size by omega) _) _, .inl ⟨AW, cW, rfl, HWA.out⟩, .inl ⟨AT, cT, rfl, HTA.out⟩, rfl, hcap, Own.nil _ _ _, Own.nil _ _ _, below_alloc (HBB.out.setCell (Nat.le_refl _) _) _, Nat.le_refl _, by omega, by omega⟩
  have hbo := bl_lt HS4.out.ho
  rw [← hw4]
  clear hw4 k0 k1 k2 k3 k4 k5 f4 hlx HZ HXX HBB HV d1 d2 d3 hwr hbo HB2 HX2 HR2
  obtain ⟨bo, hbo⟩ : ∃ bo, bo = w3.heap.size := ⟨_, rfl⟩
  rw [← hbo] at HS4 ⊢
  clear hbo hs3
  go_wp2
  refine wp_st 70 (by rfl) fun f0 hf0 => ?_
  refine wp_loop (rcO w w.heap.size bo (w.heap.size + 1) N (noCut x)) (rcMo N) ⟨f0, rfl, 0, AW, cW, none, 0, AT, cT, _, _, Nat.zero_le _, (hf0 1).trans rfl, (hf0 2).trans rfl, (hf0 4).trans rfl, (hf0 5).trans rfl, (hf0 6).trans rfl, HS4⟩ ?_
  clear hf0 f0 HS4
  rintro a wr ⟨f, rfl, k, AW2, cW2, AC2, cC2, AT2, cT2, u, v, hk, h1', h2', h4', h5', h6', HS⟩
  obtain ⟨Au, cu, rfl, -, -⟩ := HS.out.ou.slice
  obtain ⟨Av, cv, rfl, -, -⟩ := HS.out.ov.slice
  by_cases hlk : k < N
  · have hca := calm_at HOK.out k (by show x.now + (k : Int) ≤ _; omega)
    have hpl := (calm_perm HOK.out k (by show x.now + (k : Int) ≤ _; omega)).length_eq
    have hpt := (calm_tperm HOK.out k (by show x.now + (k : Int) ≤ _; omega)).1.length_eq
    rw [List.length_append] at hpl hpt
    have e1 : (noCut x).way.length = x.way.length := rfl
    have e2 : (noCut x).timers.length = x.timers.length := rfl
    have e3 : (noCut x).now = x.now := rfl
    exact rc_out w wr w.heap.size bo (w.heap.size + 1) N k (noCut x) _ _ _ f _ AW2 cW2 AC2 cC2 AT2 cT2 Au cu Av cv h1' h2' h4' h5' h6' hlk hN rfl rfl rfl hca.1 (by rw [hca.2.1, e3]; omega) (by omega) (by omega) HS (fun d _ _ _ _ h => by cases d <;> exact h)
  obtain rfl : k = N := by omega
  rw [← HY.out, ← HL.out, ← HTT.out] at HS
  clear HY HL HTT
  rw [stc_all, h1', h2', h4', h5', h6']
  clear h1' h2' h4' h5' h6'
  obtain ⟨⟨k0, k1, k2, k3, k4, k5⟩, -⟩ := blc6 HS.out.hx
  have hgx := bl_lt HS.out.hx
  obtain ⟨⟨z0, z1, z2, z3, z4, z5, z6, z7, z8⟩, fz⟩ := blc9 HS.out.ho
  have hlo := bl_lt HS.out.ho
  have f0 := fz 0
  have f1 := fz 1
  have f2 := fz 2
  have f3 := fz 3
  have f4 := fz 4
  have f5 := fz 5
  clear fz
  go_upto_region 21 with fail
  change Code.wp _ _ _ _ (set6 wr bo (.int .i64 Y.nodes) (.int .i64 Y.now) (.int .i64 Y.next) (.slice AW2 Y.way.length cW2) (.slice AC2 Y.cuts.length cC2) (.slice AT2 Y.timers.length cT2))
  obtain ⟨w7, hw7⟩ : ∃ w7, w7 = set6 wr bo (.int .i64 Y.nodes) (.int .i64 Y.now) (.int .i64 Y.next) (.slice AW2 Y.way.length cW2) (.slice AC2 Y.cuts.length cC2) (.slice AT2 Y.timers.length cT2) := ⟨_, rfl⟩
  have HO7 : Hid (w7.heap[bo]? = some (.cells #[.int .i64 Y.nodes, .int .i64 Y.now, .int .i64 Y.next, .slice AW2 Y.way.length cW2, .slice AC2 Y.cuts.length cC2, .slice AT2 Y.timers.length cT2, .slice Au L.length cu, .slice Av T.length cv, .int .i64 0] 73 (0, 0))) := by rw [hw7]; exact set6_all9 HS.out.ho
  have HR7 : Hid (w7.heap[w.heap.size + 1]? = some (.cells #[.int .i64 0, .int .i64 0, .int .i64 0, .slice none 0 0, .slice none 0 0, .slice none 0 0, .slice none 0 0, .slice none 0 0, .int .i64 0] 73 (0, 0))) := by rw [hw7]; exact set6_far HS.out.hr HS.out.ne
  have HW7 : Hid (RowX w w7 33 (.slice AW2 Y.way.length cW2) Y.way (.slice Au L.length cu)) := by rw [hw7]; exact HS.out.wy.set6 HS.out.ho (by decide)
  have HT7 : Hid (RowX w w7 86 (.slice AT2 Y.timers.length cT2) Y.timers (.slice Av T.length cv)) := by rw [hw7]; exact HS.out.tm.set6 HS.out.ho (by decide)
  have HU7 : Hid (Own w7 w.heap.size 33 (.slice Au L.length cu) L) := by rw [hw7]; exact set6_own HS.out.ou (HS.out.ou.ne HS.out.ho (by decide))
  have HV7 : Hid (Own w7 w.heap.size 86 (.slice Av T.length cv) T) := by rw [hw7]; exact set6_own HS.out.ov (HS.out.ov.ne HS.out.ho (by decide))
  have HB7 : Hid (Below w.heap.size w w7) := by rw [hw7]; exact set6_below HS.out.bl HS.out.lo
  have HC7 := Lib.hid HS.out.cu
  have hne := HS.out.ne
  rw [← hw7]
  clear hw7 k0 k1 k2 k3 k4 k5 hgx z0 z1 z2 z3 z4 z5 z6 z7 z8 hlo f0 f1 f2 f3 f4 f5 HS
  obtain ⟨⟨z0, z1, z2, z3, z4, z5, z6, z7, z8⟩, -⟩ := blc9 HO7.out
  have hlo := bl_lt HO7.out
  obtain ⟨⟨k0, k1, k2, k3, k4, k5, k6, k7, k8⟩, fz⟩ := blc9 HR7.out
  have hlr := bl_lt HR7.out
  have f0 := fz 0
  have f1 := fz 1
  have f2 := fz 2
  have f3 := fz 3
  have f4 := fz 4
  have f5 := fz 5
  have f6 := fz 6
  have f7 := fz 7
  have f8 := fz 8
  clear fz
  go_wp2
  refine ret_c Tryz.results28 (w.heap.size + 1) 73 #[.int .i64 Y.nodes, .int .i64 Y.now, .int .i64 Y.next, .slice AW2 Y.way.length cW2, .slice AC2 Y.cuts.length cC2, .slice AT2 Y.timers.length cT2, .slice Au L.length cu, .slice Av T.length cv, .int .i64 0] _ rfl (set9_all HR7.out) Tryz.underlying73 rfl sizeCalmed rfl ⟨AW2, cW2, AC2, cC2, AT2, cT2, _, _, rfl, ?_, ?_, ?_, ?_⟩
  · have hb9 := set9_below (g := w.heap.size + 1) (a0 := .int .i64 Y.nodes) (a1 := .int .i64 Y.now) (a2 := .int .i64 Y.next) (a3 := .slice AW2 Y.way.length cW2) (a4 := .slice AC2 Y.cuts.length cC2) (a5 := .slice AT2 Y.timers.length cT2) (a6 := .slice Au L.length cu) (a7 := .slice Av T.length cv) (a8 := .int .i64 0) HB7.out (by omega)
    exact ⟨AW2, cW2, AC2, cC2, AT2, cT2, rfl, (HW7.out.set9 HR7.out (by decide)).rd hb9, by rw [HC7.out]; exact fun i hi => absurd hi (by simp), (HT7.out.set9 HR7.out (by decide)).rd hb9⟩
  · exact set9_own HU7.out (HU7.out.ne HR7.out (by decide))
  · exact set9_own HV7.out (HV7.out.ne HR7.out (by decide))
  · exact set9_below HB7.out (by omega)
theorem RCalm_any (x : Nt) (w : World) (AW AC AT : Option Addr) (cW cC cT : Nat) (n : Int) (hW : Rd w AW x.way) (hC : Rd w AC x.cuts) (hT : Rd w AT x.timers) (hcap : x.way.length ≤ cW) (hlc : x.cuts.length ≤ 10000000) (hlw : x.way.length ≤ 10000000) (hlt : x.timers.length ≤ 10000000) :
    Calls Tryz.prog 28 #[.agg #[.int .i64 x.nodes, .int .i64 x.now, .int .i64 x.next, .slice AW x.way.length cW, .slice AC x.cuts.length cC, .slice AT x.timers.length cT], .int .i64 n] w fun e w' => ∃ AW2 cW2 AC2 cC2 AT2 cT2 u v, e = .returned (.agg #[.int .i64 (calmRX x n).nodes, .int .i64 (calmRX x n).now, .int .i64 (calmRX x n).next, .slice AW2 (calmRX x n).way.length cW2, .slice AC2 (calmRX x n).cuts.length cC2, .slice AT2 (calmRX x n).timers.length cT2, u, v, .int .i64 (calmE x n)]) ∧ NetV w' (.agg #[.int .i64 (calmRX x n).nodes, .int .i64 (calmRX x n).now, .int .i64 (calmRX x n).next, .slice AW2 (calmRX x n).way.length cW2, .slice AC2 (calmRX x n).cuts.length cC2, .slice AT2 (calmRX x n).timers.length cT2]) (calmRX x n) ∧ Own w' w.heap.size 33 u (calmRL x n) ∧ Own w' w.heap.size 86 v (calmRT x n) ∧ Below w.heap.size w w' := by
  have herr : ∀ (k : Int) (e : Ending) (w' : World), calmE x n = k → k ≠ 0 → (e = .returned (.agg #[.int .i64 0, .int .i64 0, .int .i64 0, .slice none 0 0, .slice none 0 0, .slice none 0 0, .slice none 0 0, .slice none 0 0, .int .i64 k]) ∧ Below w.heap.size w w') → ∃ AW2 cW2 AC2 cC2 AT2 cT2 u v, e = .returned (.agg #[.int .i64 (calmRX x n).nodes, .int .i64 (calmRX x n).now, .int .i64 (calmRX x n).next, .slice AW2 (calmRX x n).way.length cW2, .slice AC2 (calmRX x n).cuts.length cC2, .slice AT2 (calmRX x n).timers.length cT2, u, v, .int .i64 (calmE x n)]) ∧ NetV w' (.agg #[.int .i64 (calmRX x n).nodes, .int .i64 (calmRX x n).now, .int .i64 (calmRX x n).next, .slice AW2 (calmRX x n).way.length cW2, .slice AC2 (calmRX x n).cuts.length cC2, .slice AT2 (calmRX x n).timers.length cT2]) (calmRX x n) ∧ Own w' w.heap.size 33 u (calmRL x n) ∧ Own w' w.heap.size 86 v (calmRT x n) ∧ Below w.heap.size w w' := by
    intro k e w' hk h0 h
    have e1 : calmRX x n = zNt := by unfold calmRX; rw [hk, if_neg h0]
    have e2 : calmRL x n = [] := by unfold calmRL; rw [hk, if_neg h0]
    have e3 : calmRT x n = [] := by unfold calmRT; rw [hk, if_neg h0]
    rw [e1, e2, e3, hk]
    exact ⟨none, 0, none, 0, none, 0, _, _, h.1, zNetV_is w', Own.nil _ _ _, Own.nil _ _ _, h.2⟩
  cases hc : checkB x
  · exact (RCalm_form x w AW AC AT cW cC cT n hW hC hT hlc hlw hlt hc).mono fun e w' h => herr 2 e w' (by unfold calmE; rw [if_pos hc]) (by decide) h
  · have hx := (ok_iff x).1 hc
    have hnc : ¬ checkB x = false := by rw [hc]; decide
    by_cases c1 : n < 0
    · exact (RCalm_neg x w AW AC AT cW cC cT n hW hC hT hlc hlw hlt hc c1).mono fun e w' h => herr 1 e w' (by unfold calmE; rw [if_neg hnc, if_pos (.inl c1)]) (by decide) h
    by_cases c2 : 1000 < n
    · exact (RCalm_far x w AW AC AT cW cC cT n hW hC hT hlc hlw hlt hc c1 c2).mono fun e w' h => herr 1 e w' (by unfold calmE; rw [if_neg hnc, if_pos (.inr c2)]) (by decide) h
    by_cases c3 : 1099511627776 < x.now + n
    · exact (RCalm_lim x w AW AC AT cW cC cT n hW hC hT hlc hlw hlt hc c1 c2 c3).mono fun e w' h => herr 3 e w' (by unfold calmE; rw [if_neg hnc, if_neg (by omega), if_pos c3]) (by decide) h
    obtain ⟨N, rfl⟩ := Int.eq_ofNat_of_zero_le (show 0 ≤ n by omega)
    have h0 : calmE x (N : Int) = 0 := by unfold calmE; rw [if_neg hnc, if_neg (by omega), if_neg c3]
    have e1 : calmRX x (N : Int) = calmX (noCut x) N := by unfold calmRX; rw [if_pos h0]; rfl
    have e2 : calmRL x (N : Int) = calmL (noCut x) N := by unfold calmRL; rw [if_pos h0]; rfl
    have e3 : calmRT x (N : Int) = calmT (noCut x) N := by unfold calmRT; rw [if_pos h0]; rfl
    rw [e1, e2, e3, h0]
    exact RCalm_good x w AW AC AT cW cC cT N hW hC hT hcap hx (by omega) (by omega)
end Go.Proofs.YthlbmcfliejdiaaGreat
end
