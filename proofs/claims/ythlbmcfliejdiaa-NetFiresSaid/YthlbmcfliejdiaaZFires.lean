/- Plain laws of Calm: what it delivers and what fires, tick by tick. Plain laws of NetConserves: what the law counts agrees with the network, act by act. Plain laws of NetFires: the timers that wait, act by act. The contract of the iterator that the method ready returns, where a round may also write one block of another kind. (Printed by wip/gen_rdyx.py.). Words for the walk of Calm: append inside a fence; states with marks; what is kept from tick to tick. The contract of Calm. (Printed by wip/gen_clm.py.). The contract of Calm, at whatever network and number. A log in memory, element by element. NetFires: drop, and the rounds of its loops. (Printed by wip/gen_lawf.py.). NetFires: the rounds at a tick. (Printed by wip/gen_lawfb.py.). The law NetFires: it returns true. (Printed by wip/gen_lawfc.py.). The given row of NetFires. (Printed by wip/gen_row.py.). -/
import Derived.Test.YthlbmcfliejdiaaGf
import Derived.Test.YthlbmcfliejdiaaGe
import Derived.Test.YthlbmcfliejdiaaGb
import Derived.Test.YthlbmcfliejdiaaGc
import Derived.Test.YthlbmcfliejdiaaGa
import Derived.RangeFuncNested
import Derived.RangeFuncBound
import Derived.RangeFuncCalls
import Derived.RangeFuncLeaves
import Derived.Shelf.Abstract
import Derived.Shelf.RegionOpen
import Derived.OwnWalkIn
import Derived.TacticsInMore
import Derived.LoopNIn
import Derived.LoopIn
import Derived.Test.YthlbmcfliejdiaaGj
import Derived.Scope
import Derived.WalkMore
import Derived.Test.YthlbmcfliejdiaaGg
import Derived.Test.YthlbmcfliejdiaaGh
import Derived.Deep.DeepCutAuto
import Derived.Deep.CutBlock
import Derived.Deep.CutRange
import Derived.Test.YthlbmcfliejdiaaRows
import Derived.WalkKit
import Derived.ProofKit
import Derived.OpenShut
import Derived.ShutString
import Derived.ChangeOld
import Derived.Below
import Derived.SizedLaws
import Derived.Carry
section
set_option linter.unusedVariables false
set_option linter.unusedSimpArgs false
namespace Go.Proofs.Ythlbmcfliejdiaa
open Go.RowKit

def dueF (now : Int) (xs : List Lt) : List Lt := xs.filter (fun l => decide (l.rd ≤ now))
def ndueF (now : Int) (xs : List Lt) : List Lt := xs.filter (fun l => !decide (l.rd ≤ now))
def noCut (x : Nt) : Nt := { x with cuts := [] }
/-- A tick's deliveries, and the tick. -/
def calm1 (x : Nt) : Nt := (tickM { x with way := ndueF x.now x.way }).x
def calmX (x : Nt) : Nat → Nt
  | 0 => x
  | k + 1 => calm1 (calmX x k)
def calmL (x : Nt) : Nat → List Lt
  | 0 => []
  | k + 1 => calmL x k ++ dueF (calmX x k).now (calmX x k).way
def calmT (x : Nt) : Nat → List Tm
  | 0 => []
  | k + 1 => calmT x k ++ (tickM (calmX x k)).ts
/-- In the middle of a tick: some have been delivered. -/
def Dlv (x0 : Nt) (L0 : List Lt) (y : Nt) (L : List Lt) : Prop :=
  y = { x0 with way := y.way } ∧ ndueF x0.now y.way = ndueF x0.now x0.way ∧ L ++ dueF x0.now y.way = L0 ++ dueF x0.now x0.way ∧ y.way.length ≤ x0.way.length

theorem range_head {n i : Nat} {f : Nat → Bool} {r : List Nat} (h : (List.range n).filter f = i :: r) : i < n ∧ f i = true ∧ ∀ j, j < i → f j = false := by
  have hm : i ∈ (List.range n).filter f := by rw [h]; simp
  obtain ⟨h1, h2⟩ := List.mem_filter.1 hm
  have hp : ((List.range n).filter f).Pairwise (· < ·) := List.Pairwise.filter _ List.pairwise_lt_range
  rw [h] at hp
  refine ⟨List.mem_range.1 h1, h2, fun j hj => ?_⟩
  cases hf : f j
  · rfl
  · have hj2 : j ∈ (List.range n).filter f := List.mem_filter.2 ⟨List.mem_range.2 (by have := List.mem_range.1 h1; omega), hf⟩
    rw [h] at hj2
    rcases List.mem_cons.1 hj2 with e | e
    · omega
    · have := (List.pairwise_cons.1 hp).1 j e; omega
theorem filter_first {α : Type} (p : α → Bool) : ∀ (ws : List α) (i : Nat) (l : α), ws[i]? = some l → p l = true → (∀ j, j < i → ∀ z, ws[j]? = some z → p z = false) →
    ws.filter p = l :: (ws.eraseIdx i).filter p ∧ (ws.eraseIdx i).filter (fun z => !p z) = ws.filter (fun z => !p z)
  | [], i, l, h, _, _ => by simp at h
  | y :: r, 0, l, h, hp, _ => by
    have : y = l := by simpa using h
    subst this
    simp [hp]
  | y :: r, i + 1, l, h, hp, hj => by
    obtain ⟨a, b⟩ := filter_first p r i l (by simpa using h) hp (fun j hlt z hz => hj (j + 1) (by omega) z (by simpa using hz))
    have hy : p y = false := hj 0 (by omega) y (by simp)
    rw [List.eraseIdx_cons_succ]
    constructor
    · rw [List.filter_cons_of_neg (by simp [hy]), List.filter_cons_of_neg (by simp [hy])]; exact a
    · rw [List.filter_cons_of_pos (by simp [hy]), List.filter_cons_of_pos (by simp [hy]), b]
theorem canB_nocut {x : Nt} (h : x.cuts = []) (l : Lt) : canB x l = decide (l.rd ≤ x.now) := by unfold canB; rw [h]; simp
/-- Nothing can be delivered: all that is due is gone. -/
theorem rdy_none {y : Nt} (hc : y.cuts = []) (h : rdyF y = []) : dueF y.now y.way = [] := by
  rw [dueF, List.filter_eq_nil_iff]
  intro l hl
  obtain ⟨i, hi, rfl⟩ := List.getElem_of_mem hl
  intro hd
  have : i ∈ rdyF y := (mem_rdy y i).2 ⟨_, List.getElem?_eq_getElem hi, by rw [canB_nocut hc]; exact hd⟩
  rw [h] at this
  simp at this
theorem rdy_some {y : Nt} (hc : y.cuts = []) {i : Nat} {r : List Nat} (h : rdyF y = i :: r) :
    ∃ l, y.way[i]? = some l ∧ dueF y.now y.way = l :: dueF y.now (y.way.eraseIdx i) ∧ ndueF y.now (y.way.eraseIdx i) = ndueF y.now y.way ∧ deliverM y i = ⟨{ y with way := y.way.eraseIdx i }, 0, l, [], 0⟩ := by
  obtain ⟨h1, h2, h3⟩ := range_head h
  obtain ⟨l, hl, hcan⟩ := (mem_rdy y i).1 (by rw [h]; simp)
  have hd : decide (l.rd ≤ y.now) = true := by rw [← canB_nocut hc]; exact hcan
  obtain ⟨a, b⟩ := filter_first (fun l : Lt => decide (l.rd ≤ y.now)) y.way i l hl hd (fun j hj z hz => by
    have := h3 j hj
    unfold canI at this
    rw [hz] at this
    simp only at this
    rw [← canB_nocut hc]; exact this)
  refine ⟨l, hl, a, b, ?_⟩
  unfold deliverM
  rw [if_neg (by simp [hasB]; omega), Int.toNat_natCast, hl]
  simp [hcan]
theorem deliver_no (y : Nt) : deliverM y (-1) = errR 4 := by unfold deliverM; rw [if_pos (by simp [hasB])]
theorem dlv_start (x : Nt) (L : List Lt) : Dlv x L x L := ⟨rfl, rfl, rfl, Nat.le_refl _⟩
theorem dlv_step {x0 : Nt} {L0 : List Lt} {y : Nt} {L : List Lt} (h : Dlv x0 L0 y L) (hc : x0.cuts = []) {i : Nat} {r : List Nat} (hr : rdyF y = i :: r) :
    ∃ l, deliverM y i = ⟨{ y with way := y.way.eraseIdx i }, 0, l, [], 0⟩ ∧ Dlv x0 L0 { y with way := y.way.eraseIdx i } (L ++ [l]) ∧ (y.way.eraseIdx i).length + 1 = y.way.length := by
  obtain ⟨h1, h2, h3, h4⟩ := h
  have hn : y.now = x0.now := by rw [h1]
  have hcy : y.cuts = [] := by rw [h1]; exact hc
  obtain ⟨l, a, b, c, d⟩ := rdy_some hcy hr
  rw [hn] at b c
  have hi := (List.getElem?_eq_some_iff.1 a).1
  have hl : (y.way.eraseIdx i).length + 1 = y.way.length := by rw [List.length_eraseIdx, if_pos hi]; omega
  refine ⟨l, d, ⟨by rw [h1], by show ndueF _ (y.way.eraseIdx i) = _; rw [c, h2], ?_, by show (y.way.eraseIdx i).length ≤ _; omega⟩, hl⟩
  show (L ++ [l]) ++ dueF _ (y.way.eraseIdx i) = _
  rw [← h3, b, List.append_assoc, List.singleton_append]
theorem ndue_all {now : Int} {ws : List Lt} (h : dueF now ws = []) : ndueF now ws = ws := by
  unfold ndueF
  rw [List.filter_eq_self]
  intro l hl
  unfold dueF at h
  have := List.filter_eq_nil_iff.1 h l hl
  simpa using this
theorem dlv_end {x0 : Nt} {L0 : List Lt} {y : Nt} {L : List Lt} (h : Dlv x0 L0 y L) (hc : x0.cuts = []) (hr : rdyF y = []) : y = { x0 with way := ndueF x0.now x0.way } ∧ L = L0 ++ dueF x0.now x0.way := by
  obtain ⟨h1, h2, h3, h4⟩ := h
  have hn : y.now = x0.now := by rw [h1]
  have hcy : y.cuts = [] := by rw [h1]; exact hc
  have hd := rdy_none hcy hr
  rw [hn] at hd
  have hw : y.way = ndueF x0.now x0.way := by rw [← h2, ndue_all hd]
  constructor
  · rw [← hw]; exact h1
  · rw [hd, List.append_nil] at h3; exact h3
theorem tick_ways (x : Nt) (ws : List Lt) : (tickM { x with way := ws }).ts = (tickM x).ts ∧ (tickM { x with way := ws }).e = (tickM x).e := by
  unfold tickM
  by_cases h : x.now = 1099511627776 <;> simp [h]

/-! Well-formed all along. -/
theorem sub_keeps {x : Nt} (h : Ok x) {ws : List Lt} (hs : ws.Sublist x.way) : Ok { x with way := ws } :=
  ⟨h.n1, h.n2, h.t0, h.t1, h.s0, h.s1, Nat.le_trans hs.length_le h.way, h.tms, h.risC, h.risT, fun l hl => h.lts l (hs.subset hl), h.lks, h.tmo⟩
theorem nocut_ok {x : Nt} (h : Ok x) : Ok (noCut x) := ⟨h.n1, h.n2, h.t0, h.t1, h.s0, h.s1, h.way, h.tms, rfl, h.risT, h.lts, by intro c hc; exact absurd hc (by simp [noCut]), h.tmo⟩
theorem dlv_ok {x0 : Nt} {L0 : List Lt} {y : Nt} {L : List Lt} (h : Ok x0) (hd : y = { x0 with way := y.way }) (hs : y.way.Sublist x0.way) : Ok y := by rw [hd]; exact sub_keeps h hs
theorem calm_at {x : Nt} (h : Ok x) : ∀ (k : Nat), x.now + k ≤ 1099511627776 → Ok (calmX x k) ∧ (calmX x k).now = x.now + k ∧ (calmX x k).cuts = x.cuts ∧ (calmX x k).nodes = x.nodes ∧ (calmX x k).next = x.next
  | 0, _ => ⟨h, by show x.now = _; simp, rfl, rfl, rfl⟩
  | k + 1, hk => by
    obtain ⟨a, b, c, d, e⟩ := calm_at h k (by omega)
    have hn : ¬ (calmX x k).now = 1099511627776 := by omega
    have he : (tickM { calmX x k with way := ndueF (calmX x k).now (calmX x k).way }).e = 0 := by unfold tickM; rw [if_neg (by exact hn)]
    have hx : (calmX x (k + 1)) = { calmX x k with now := (calmX x k).now + 1, way := ndueF (calmX x k).now (calmX x k).way, timers := (calmX x k).timers.filter (fun t => decide (t.t ≠ (calmX x k).now + 1)) } := by
      show calm1 _ = _
      unfold calm1 tickM; rw [if_neg (by exact hn)]
    refine ⟨tick_keeps (sub_keeps a List.filter_sublist) he, ?_, ?_, ?_, ?_⟩
    · rw [hx]; simp only; omega
    · rw [hx]; exact c
    · rw [hx]; exact d
    · rw [hx]; exact e
theorem calm_succ {x : Nt} (k : Nat) (hn : ¬ (calmX x k).now = 1099511627776) :
    (calmX x (k + 1)) = { calmX x k with now := (calmX x k).now + 1, way := ndueF (calmX x k).now (calmX x k).way, timers := (calmX x k).timers.filter (fun t => decide (t.t ≠ (calmX x k).now + 1)) } ∧
    calmT x (k + 1) = calmT x k ++ (calmX x k).timers.filter (fun t => decide (t.t = (calmX x k).now + 1)) := by
  constructor
  · show calm1 _ = _
    unfold calm1 tickM; rw [if_neg (by exact hn)]
  · show calmT x k ++ _ = _
    unfold tickM; rw [if_neg hn]

/-! What is left, what went. -/
def stayB (x : Nt) (n : Nat) (l : Lt) : Bool := decide (n = 0) || decide (x.now + n ≤ l.rd)
theorem calm_way {x : Nt} (h : Ok x) : ∀ (k : Nat), x.now + k ≤ 1099511627776 → (calmX x k).way = x.way.filter (stayB x k)
  | 0, _ => by
    show x.way = _
    rw [List.filter_eq_self.2]
    intro l _; simp [stayB]
  | k + 1, hk => by
    have hi := calm_way h k (by omega)
    obtain ⟨a, b, -⟩ := calm_at h k (by omega)
    rw [(calm_succ k (by omega)).1]
    show ndueF _ _ = _
    rw [hi, b]
    unfold ndueF
    rw [List.filter_filter]
    congr 1
    funext l
    unfold stayB
    by_cases h0 : k = 0
    · subst h0; simp; rw [Bool.eq_iff_iff]; simp; omega
    · rw [Bool.eq_iff_iff]; simp [h0]; omega
theorem filter_perm {α : Type} (p : α → Bool) : ∀ (xs : List α), (xs.filter p ++ xs.filter (fun z => !p z)).Perm xs
  | [] => List.Perm.refl _
  | y :: r => by
    have ih := filter_perm p r
    cases hp : p y
    · rw [List.filter_cons_of_neg (by simp [hp]), List.filter_cons_of_pos (by simp [hp])]
      exact (List.perm_middle).trans (ih.cons y)
    · rw [List.filter_cons_of_pos hp, List.filter_cons_of_neg (by simp [hp])]
      exact ih.cons y
theorem calm_perm {x : Nt} (h : Ok x) : ∀ (k : Nat), x.now + k ≤ 1099511627776 → (calmL x k ++ (calmX x k).way).Perm x.way
  | 0, _ => List.Perm.refl _
  | k + 1, hk => by
    have hi := calm_perm h k (by omega)
    obtain ⟨a, b, -⟩ := calm_at h k (by omega)
    rw [(calm_succ k (by omega)).1]
    show ((calmL x k ++ dueF _ _) ++ ndueF _ _).Perm _
    rw [List.append_assoc]
    exact (List.Perm.append_left _ (filter_perm _ _)).trans hi
theorem calm_tperm {x : Nt} (h : Ok x) : ∀ (k : Nat), x.now + k ≤ 1099511627776 → (calmT x k ++ (calmX x k).timers).Perm x.timers ∧ (calmX x k).timers = x.timers.filter (fun t => decide (x.now + k < t.t))
  | 0, _ => ⟨List.Perm.refl _, by
      show x.timers = _
      rw [List.filter_eq_self.2]
      intro t ht
      have := later h ht
      simpa using this⟩
  | k + 1, hk => by
    obtain ⟨hi, hf⟩ := calm_tperm h k (by omega)
    obtain ⟨a, b, -⟩ := calm_at h k (by omega)
    obtain ⟨e1, e2⟩ := calm_succ (x := x) k (by omega)
    rw [e1, e2]
    constructor
    · show ((calmT x k ++ _) ++ List.filter _ _).Perm _
      rw [List.append_assoc]
      refine (List.Perm.append_left _ ?_).trans hi
      have := filter_perm (fun t : Tm => decide (t.t = (calmX x k).now + 1)) (calmX x k).timers
      have e : (fun z : Tm => !decide (z.t = (calmX x k).now + 1)) = (fun t => decide (t.t ≠ (calmX x k).now + 1)) := by funext t; simp
      rw [e] at this
      exact this
    · show List.filter _ (calmX x k).timers = _
      rw [hf, List.filter_filter, b]
      congr 1
      funext t
      rw [Bool.eq_iff_iff]; simp; omega
/-- The letters that went: as many of each as there were. -/
theorem calm_count {x : Nt} (h : Ok x) (n : Nat) (hn : x.now + n ≤ 1099511627776) (l : Lt) (hl : stayB x n l = false) : (calmL x n).count l = x.way.count l := by
  have hp := (calm_perm h n hn).count_eq l
  rw [List.count_append, calm_way h n hn] at hp
  have h0 : (x.way.filter (stayB x n)).count l = 0 := by
    rw [List.count_eq_zero]
    intro hm
    have := (List.mem_filter.1 hm).2
    rw [hl] at this; cases this
  omega
theorem calm_left {x : Nt} (h : Ok x) (n : Nat) (hn : x.now + n ≤ 1099511627776) : (calmX x n).way.length = (x.way.filter (stayB x n)).length ∧ (calmL x n).length = (x.way.filter (fun l => !stayB x n l)).length := by
  have h1 := (calm_perm h n hn).length_eq
  have h2 := (filter_perm (stayB x n) x.way).length_eq
  rw [List.length_append] at h1 h2
  have h3 : (calmX x n).way.length = (x.way.filter (stayB x n)).length := by rw [calm_way h n hn]
  exact ⟨h3, by omega⟩

/-! Bounds of a network that acts lead to. -/
structure Bd (k : Nat) (x : Nt) : Prop where
  nw : x.now ≤ k
  rd : ∀ l ∈ x.way, l.rd ≤ x.now + 1000
  tm : ∀ t ∈ x.timers, t.t ≤ x.now + 1000
theorem bd_new (n : Int) : Bd 0 ⟨n, 0, 0, [], [], []⟩ := ⟨by simp, by simp, by simp⟩
theorem Bd.up {k : Nat} {x : Nt} (h : Bd k x) : Bd (k + 1) x := ⟨by have := h.nw; omega, h.rd, h.tm⟩
theorem bd_act {k : Nat} {x : Nt} (h : Bd k x) (a : Ac) (he : (actM x a).e = 0) : Bd (k + 1) (actM x a).x := by
  unfold actM at he ⊢
  split at he
  · rw [if_pos ‹_›]
    unfold sendM at he ⊢
    split at he
    · simp [errR] at he
    rename_i h1
    split at he
    · simp [errR] at he
    rename_i h2
    split at he
    · simp [errR] at he
    rename_i h3
    rw [if_neg h1, if_neg h2, if_neg h3]
    refine ⟨h.up.nw, fun l hl => ?_, h.tm⟩
    rcases List.mem_append.1 hl with hl | hl
    · exact h.rd l hl
    · obtain rfl := List.mem_singleton.1 hl
      show x.now ≤ x.now + 1000; omega
  rename_i n1; rw [if_neg n1]
  split at he
  · rw [if_pos ‹_›]
    unfold deliverM at he ⊢
    split at he
    · simp [errR] at he
    rename_i h1
    rw [if_neg h1]
    split at he
    · simp [errR] at he
    rename_i l hl
    split at he
    · simp [errR] at he
    rename_i h2
    simp only [hl, if_neg h2]
    exact ⟨h.up.nw, fun l hl => h.rd l (List.mem_of_mem_eraseIdx hl), h.tm⟩
  rename_i n2; rw [if_neg n2]
  split at he
  · rw [if_pos ‹_›]
    unfold loseM at he ⊢
    split at he
    · simp [errR] at he
    rename_i h1
    rw [if_neg h1]
    split at he
    · simp [errR] at he
    rename_i l hl
    simp only [hl]
    exact ⟨h.up.nw, fun l hl => h.rd l (List.mem_of_mem_eraseIdx hl), h.tm⟩
  rename_i n3; rw [if_neg n3]
  split at he
  · rw [if_pos ‹_›]
    unfold doubleM at he ⊢
    split at he
    · simp [errR] at he
    rename_i h1
    split at he
    · simp [errR] at he
    rename_i h2
    rw [if_neg h1, if_neg h2]
    split at he
    · simp [errR] at he
    rename_i l hl
    simp only [hl]
    refine ⟨h.up.nw, fun m hm => ?_, h.tm⟩
    rcases List.mem_append.1 hm with hm | hm
    · exact h.rd m hm
    · obtain rfl := List.mem_singleton.1 hm
      exact h.rd m (mem_at hl)
  rename_i n4; rw [if_neg n4]
  split at he
  · rw [if_pos ‹_›]
    unfold delayM at he ⊢
    split at he
    · simp [errR] at he
    rename_i h1
    split at he
    · simp [errR] at he
    rename_i h2
    rw [if_neg h1, if_neg h2]
    split at he
    · simp [errR] at he
    rename_i l hl
    simp only [hl]
    refine ⟨h.up.nw, fun m hm => ?_, h.tm⟩
    rcases List.mem_or_eq_of_mem_set hm with hm | rfl
    · exact h.rd m hm
    · show x.now + a.b ≤ x.now + 1000; omega
  rename_i n5; rw [if_neg n5]
  split at he
  · rw [if_pos ‹_›]
    unfold cutM at he ⊢
    split at he
    · simp [errR] at he
    rename_i h1
    split at he
    · simp [errR] at he
    rename_i h2
    rw [if_neg h1, if_neg h2]; exact ⟨h.up.nw, h.rd, h.tm⟩
  rename_i n6; rw [if_neg n6]
  split at he
  · rw [if_pos ‹_›]
    unfold healM at he ⊢
    split at he
    · simp [errR] at he
    rename_i h1
    split at he
    · rename_i h2
      rw [if_neg h1, if_pos h2]; exact ⟨h.up.nw, h.rd, h.tm⟩
    · simp [errR] at he
  rename_i n7; rw [if_neg n7]
  split at he
  · rw [if_pos ‹_›]
    unfold setM at he ⊢
    split at he
    · simp [errR] at he
    rename_i h1
    split at he
    · simp [errR] at he
    rename_i h2
    rw [if_neg h1, if_neg h2]
    refine ⟨h.up.nw, h.rd, fun t ht => ?_⟩
    rcases (mem_insS _ _ _ _).1 ht with rfl | ht
    · simp only [setB, Bool.not_eq_false, Bool.and_eq_true, decide_eq_true_eq] at h1
      show x.now + a.n ≤ x.now + 1000; omega
    · exact h.tm t (List.mem_filter.1 ht).1
  rename_i n8; rw [if_neg n8]
  split at he
  · rw [if_pos ‹_›]
    unfold stopM at he ⊢
    split at he
    · simp [errR] at he
    rename_i h1
    split at he
    · simp [errR] at he
    rename_i h2
    rw [if_neg h1, if_neg h2]; exact ⟨h.up.nw, h.rd, fun t ht => h.tm t (List.mem_filter.1 ht).1⟩
  rename_i n9; rw [if_neg n9]
  split at he
  · rw [if_pos ‹_›]
    unfold tickM at he ⊢
    split at he
    · simp [errR] at he
    rename_i h1
    rw [if_neg h1]
    have hn := h.nw
    refine ⟨by show x.now + 1 ≤ _; omega, fun l hl => ?_, fun t ht => ?_⟩
    · have := h.rd l hl
      show l.rd ≤ x.now + 1 + 1000; omega
    · have := h.tm t (List.mem_filter.1 ht).1
      show t.t ≤ x.now + 1 + 1000; omega
  · simp [errR] at he
theorem bd_do {k : Nat} {x : Nt} (h : Bd k x) (a : Ac) : Bd (k + 1) (doX x a) := by
  unfold doX
  split
  · exact bd_act h a ‹_›
  · exact h.up
theorem bd_play : ∀ {x : Nt} (l : List Ac) (k : Nat), Ok x → Bd k x → Bd (k + l.length) (playX x l)
  | x, [], k, h, hb => hb
  | x, a :: l, k, h, hb => by
    unfold playX; rw [doXR_ok h]
    have := bd_play l (k + 1) (do_keeps h a) (bd_do hb a)
    rw [List.length_cons, show k + (l.length + 1) = k + 1 + l.length by omega]
    exact this
/-- Behind a calm of as many ticks as a letter can be kept back, and one more, there is none. -/
theorem calm_gone {x : Nt} {k m : Nat} (h : Ok x) (hb : Bd k x) (hk : k ≤ 1000) (hm : m = 1000) : (calmX (noCut (calmX (noCut x) m)) 1).way = [] := by
  have hn := hb.nw
  have h0 := nocut_ok h
  obtain ⟨a, b, -⟩ := calm_at h0 m (by show x.now + _ ≤ _; omega)
  have hbw : (calmX (noCut x) m).now = x.now + m := b
  have hcw := calm_way h0 m (by show x.now + _ ≤ _; omega)
  obtain ⟨z, hz⟩ : ∃ z, z = calmX (noCut x) m := ⟨_, rfl⟩
  rw [← hz] at a hbw hcw ⊢
  have h1 := nocut_ok a
  rw [calm_way h1 1 (by show z.now + _ ≤ _; omega), List.filter_eq_nil_iff]
  intro l hl
  have hl' : l ∈ z.way := hl
  rw [hcw] at hl'
  have h2 := hb.rd l (List.mem_filter.1 hl').1
  have h3 : (noCut z).now = x.now + m := hbw
  simp only [stayB, h3, Bool.or_eq_true, decide_eq_true_eq]
  omega
end Go.Proofs.Ythlbmcfliejdiaa
end

section
set_option linter.unusedVariables false
set_option linter.unusedSimpArgs false
namespace Go.Proofs.Ythlbmcfliejdiaa
open Go.RowKit

/-- What became of the letters of a number: how often they came, how often they went. -/
structure Acct where
  i : Int
  o : Int
  deriving DecidableEq
def incA (q : Acct) : Acct := ⟨q.i + 1, q.o⟩
def outA (q : Acct) : Acct := ⟨q.i, q.o + 1⟩
structure Cons where
  sent : List Lt
  all : List Acct
/-- What the law keeps, behind one more act. -/
def consS (c : Cons) (s : Sn) : Cons :=
  if s.e ≠ 0 ∨ s.a.k < 1 ∨ 5 < s.a.k then c
  else if s.a.k = 1 then ⟨c.sent ++ [s.l], c.all ++ [⟨1, 0⟩]⟩
  else if s.a.k = 4 then ⟨c.sent, c.all.modify s.l.id.toNat incA⟩
  else if s.a.k = 2 ∨ s.a.k = 3 then ⟨c.sent, c.all.modify s.l.id.toNat outA⟩
  else c
def cnt (way : List Lt) (j : Nat) : Int := (((way.filter (fun l => decide (l.id = (j : Int)))).length : Nat) : Int)
structure ConsI (k : Nat) (x : Nt) (c : Cons) : Prop where
  ls : (c.sent.length : Int) = x.next
  la : c.all.length = c.sent.length
  wy : ∀ l ∈ x.way, ∃ m, c.sent[l.id.toNat]? = some m ∧ l.fr = m.fr ∧ l.to = m.to ∧ l.data = m.data
  ac : ∀ (j : Nat) q, c.all[j]? = some q → q.i - q.o = cnt x.way j
  bd : ∀ (j : Nat) q, c.all[j]? = some q → 0 ≤ q.o ∧ q.i ≤ k
  ln : c.sent.length ≤ k
theorem cnt_nonneg (way : List Lt) (j : Nat) : 0 ≤ cnt way j := by unfold cnt; omega
theorem cnt_append (xs ys : List Lt) (j : Nat) : cnt (xs ++ ys) j = cnt xs j + cnt ys j := by
  unfold cnt; rw [List.filter_append, List.length_append]; omega
theorem cnt_one (l : Lt) (j : Nat) : cnt [l] j = if l.id = j then 1 else 0 := by
  unfold cnt
  by_cases h : l.id = j <;> simp [h]
theorem cnt_erase : ∀ (way : List Lt) (i : Nat) (l : Lt) (j : Nat), way[i]? = some l → cnt (way.eraseIdx i) j = cnt way j - if l.id = j then 1 else 0
  | [], i, l, j, h => by simp at h
  | y :: r, 0, l, j, h => by
    have : y = l := by simpa using h
    subst this
    have h2 := cnt_append [y] r j
    rw [cnt_one] at h2
    simp only [List.singleton_append] at h2
    rw [List.eraseIdx_cons_zero]
    omega
  | y :: r, i + 1, l, j, h => by
    have ih := cnt_erase r i l j (by simpa using h)
    have h2 := cnt_append [y] r j
    have h3 := cnt_append [y] (r.eraseIdx i) j
    simp only [List.singleton_append] at h2 h3
    rw [List.eraseIdx_cons_succ, h3, ih, h2]
    omega
theorem cnt_set : ∀ (way : List Lt) (i : Nat) (l l' : Lt) (j : Nat), way[i]? = some l → l'.id = l.id → cnt (way.set i l') j = cnt way j
  | [], i, l, l', j, h, _ => by simp at h
  | y :: r, 0, l, l', j, h, he => by
    have : y = l := by simpa using h
    subst this
    have h2 := cnt_append [y] r j
    have h3 := cnt_append [l'] r j
    rw [cnt_one] at h2 h3
    simp only [List.singleton_append] at h2 h3
    rw [List.set_cons_zero, h3, h2, he]
  | y :: r, i + 1, l, l', j, h, he => by
    have ih := cnt_set r i l l' j (by simpa using h) he
    have h2 := cnt_append [y] r j
    have h3 := cnt_append [y] (r.set i l') j
    simp only [List.singleton_append] at h2 h3
    rw [List.set_cons_succ, h3, ih, h2]
theorem cnt_zero {way : List Lt} {j : Nat} (h : ∀ l ∈ way, l.id ≠ j) : cnt way j = 0 := by
  unfold cnt
  rw [List.filter_eq_nil_iff.2 (fun l hl => by simpa using h l hl)]
  rfl
theorem get_modify {α : Type} (xs : List α) (f : α → α) (i j : Nat) : (xs.modify i f)[j]? = if i = j then (xs[j]?).map f else xs[j]? := by
  rw [List.getElem?_modify]
  by_cases h : i = j
  · subst h; cases xs[i]? <;> simp
  · simp [h]
theorem letter_id {x : Nt} (h : Ok x) {l : Lt} (hl : l ∈ x.way) : 0 ≤ l.id ∧ l.id < x.next := by
  have := h.lts l hl
  simp only [isLetterB, Bool.and_eq_true, decide_eq_true_eq] at this
  exact ⟨this.1.1.1.1.2, this.1.1.1.2⟩
theorem cons_mono {k : Nat} {x x' : Nt} {c : Cons} (h : ConsI k x c) (hn : x'.next = x.next) (hw : x'.way = x.way) : ConsI (k + 1) x' c := by
  refine ⟨by rw [hn]; exact h.ls, h.la, by rw [hw]; exact h.wy, by rw [hw]; exact h.ac, fun j q hq => ?_, Nat.le_succ_of_le h.ln⟩
  have := h.bd j q hq
  omega
/-- What an act on a letter leaves and shows. -/
theorem act_letter {x : Nt} (a : Ac) (h2 : 2 ≤ a.k) (h5 : a.k ≤ 5) (he : (actM x a).e = 0) :
    ∃ (i : Nat) (l : Lt), x.way[i]? = some l ∧ (actM x a).x.next = x.next ∧ (actM x a).x.now = x.now ∧ (actM x a).l.id = l.id ∧ (actM x a).l.fr = l.fr ∧ (actM x a).l.to = l.to ∧ (actM x a).l.data = l.data ∧
      ((a.k = 2 ∧ l.rd ≤ x.now ∧ (actM x a).l.rd = l.rd ∧ (actM x a).x.way = x.way.eraseIdx i) ∨ (a.k = 3 ∧ (actM x a).x.way = x.way.eraseIdx i) ∨ (a.k = 4 ∧ (actM x a).x.way = x.way ++ [l]) ∨ (a.k = 5 ∧ ∃ l', l'.id = l.id ∧ l'.fr = l.fr ∧ l'.to = l.to ∧ l'.data = l.data ∧ (actM x a).x.way = x.way.set i l')) := by
  obtain hk | hk | hk | hk : a.k = 2 ∨ a.k = 3 ∨ a.k = 4 ∨ a.k = 5 := by omega
  · have e : actM x a = deliverM x a.n := by unfold actM; simp [hk]
    rw [e] at he ⊢
    unfold deliverM at he ⊢
    split at he
    · simp [errR] at he
    rename_i h1
    rw [if_neg h1]
    split at he
    · simp [errR] at he
    rename_i l hl
    split at he
    · simp [errR] at he
    rename_i h2
    simp only [hl, if_neg h2]
    have hc : canB x l = true := by simpa using h2
    unfold canB at hc
    simp only [Bool.and_eq_true, decide_eq_true_eq] at hc
    exact ⟨_, l, hl, (by first | rfl | trivial), (by first | rfl | trivial), (by first | rfl | trivial), (by first | rfl | trivial), (by first | rfl | trivial), (by first | rfl | trivial), .inl ⟨hk, hc.1, (by first | rfl | trivial), (by first | rfl | trivial)⟩⟩
  · have e : actM x a = loseM x a.n := by unfold actM; simp [hk]
    rw [e] at he ⊢
    unfold loseM at he ⊢
    split at he
    · simp [errR] at he
    rename_i h1
    rw [if_neg h1]
    split at he
    · simp [errR] at he
    rename_i l hl
    simp only [hl]
    exact ⟨_, l, hl, (by first | rfl | trivial), (by first | rfl | trivial), (by first | rfl | trivial), (by first | rfl | trivial), (by first | rfl | trivial), (by first | rfl | trivial), .inr (.inl ⟨hk, (by first | rfl | trivial)⟩)⟩
  · have e : actM x a = doubleM x a.n := by unfold actM; simp [hk]
    rw [e] at he ⊢
    unfold doubleM at he ⊢
    split at he
    · simp [errR] at he
    rename_i h1
    split at he
    · simp [errR] at he
    rename_i h2
    rw [if_neg h1, if_neg h2]
    split at he
    · simp [errR] at he
    rename_i l hl
    simp only [hl]
    exact ⟨_, l, hl, (by first | rfl | trivial), (by first | rfl | trivial), (by first | rfl | trivial), (by first | rfl | trivial), (by first | rfl | trivial), (by first | rfl | trivial), .inr (.inr (.inl ⟨hk, (by first | rfl | trivial)⟩))⟩
  · have e : actM x a = delayM x a.n a.b := by unfold actM; simp [hk]
    rw [e] at he ⊢
    unfold delayM at he ⊢
    split at he
    · simp [errR] at he
    rename_i h1
    split at he
    · simp [errR] at he
    rename_i h2
    rw [if_neg h1, if_neg h2]
    split at he
    · simp [errR] at he
    rename_i l hl
    simp only [hl]
    exact ⟨_, l, hl, (by first | rfl | trivial), (by first | rfl | trivial), (by first | rfl | trivial), (by first | rfl | trivial), (by first | rfl | trivial), (by first | rfl | trivial), .inr (.inr (.inr ⟨hk, { l with rd := x.now + a.b }, (by first | rfl | trivial), (by first | rfl | trivial), (by first | rfl | trivial), (by first | rfl | trivial), (by first | rfl | trivial)⟩))⟩
theorem act_send {x : Nt} (a : Ac) (hk : a.k = 1) (he : (actM x a).e = 0) : (actM x a).x.next = x.next + 1 ∧ (actM x a).x.now = x.now ∧ (actM x a).l = ⟨x.next, a.a, a.b, x.now, a.data⟩ ∧ (actM x a).x.way = x.way ++ [⟨x.next, a.a, a.b, x.now, a.data⟩] := by
  have e : actM x a = sendM x a.a a.b a.data := by unfold actM; simp [hk]
  rw [e] at he ⊢
  unfold sendM at he ⊢
  split at he
  · simp [errR] at he
  rename_i h1
  split at he
  · simp [errR] at he
  rename_i h2
  split at he
  · simp [errR] at he
  rename_i h3
  rw [if_neg h1, if_neg h2, if_neg h3]
  exact ⟨rfl, rfl, rfl, rfl⟩
/-- Other acts leave the letters. -/
theorem act_else {x : Nt} (a : Ac) (hk : a.k < 1 ∨ 5 < a.k) (he : (actM x a).e = 0) : (actM x a).x.next = x.next ∧ (actM x a).x.way = x.way := by
  unfold actM at he ⊢
  rw [if_neg (by omega), if_neg (by omega), if_neg (by omega), if_neg (by omega), if_neg (by omega)] at he ⊢
  split at he
  · rw [if_pos ‹_›]
    unfold cutM at he ⊢
    split at he
    · simp [errR] at he
    rename_i h1
    split at he
    · simp [errR] at he
    rename_i h2
    rw [if_neg h1, if_neg h2]; exact ⟨rfl, rfl⟩
  rename_i n6; rw [if_neg n6]
  split at he
  · rw [if_pos ‹_›]
    unfold healM at he ⊢
    split at he
    · simp [errR] at he
    rename_i h1
    split at he
    · rename_i h2
      rw [if_neg h1, if_pos h2]; exact ⟨rfl, rfl⟩
    · simp [errR] at he
  rename_i n7; rw [if_neg n7]
  split at he
  · rw [if_pos ‹_›]
    unfold setM at he ⊢
    split at he
    · simp [errR] at he
    rename_i h1
    split at he
    · simp [errR] at he
    rename_i h2
    rw [if_neg h1, if_neg h2]; exact ⟨rfl, rfl⟩
  rename_i n8; rw [if_neg n8]
  split at he
  · rw [if_pos ‹_›]
    unfold stopM at he ⊢
    split at he
    · simp [errR] at he
    rename_i h1
    split at he
    · simp [errR] at he
    rename_i h2
    rw [if_neg h1, if_neg h2]; exact ⟨rfl, rfl⟩
  rename_i n9; rw [if_neg n9]
  split at he
  · rw [if_pos ‹_›]
    unfold tickM at he ⊢
    split at he
    · simp [errR] at he
    rename_i h1
    rw [if_neg h1]; exact ⟨rfl, rfl⟩
  · simp [errR] at he
theorem doS_act (x : Nt) (a : Ac) : (doS x a).a = a := by unfold doS; split <;> rfl
theorem doS_e (x : Nt) (a : Ac) : (doS x a).e = (actM x a).e := by
  unfold doS
  split
  · rename_i h; exact h.symm
  · rfl
theorem doS_ok {x : Nt} {a : Ac} (h : (actM x a).e = 0) : doS x a = ⟨a, 0, (actM x a).x.now, (actM x a).l, (actM x a).ts⟩ := by unfold doS; rw [if_pos h]
theorem doX_ok {x : Nt} {a : Ac} (h : (actM x a).e = 0) : doX x a = (actM x a).x := by unfold doX; rw [if_pos h]
theorem doX_no {x : Nt} {a : Ac} (h : ¬ (actM x a).e = 0) : doX x a = x := by unfold doX; rw [if_neg h]
/-- What the law asks of one act. -/
def consOk (c : Cons) (a : Ac) (s : Sn) : Prop :=
  s.e = 0 → 1 ≤ a.k → a.k ≤ 5 →
    (a.k = 1 ∧ s.l.id = c.sent.length ∧ s.l.fr = a.a ∧ s.l.to = a.b ∧ s.l.data = a.data ∧ s.l.rd = s.now) ∨
    (2 ≤ a.k ∧ 0 ≤ s.l.id ∧ s.l.id < c.sent.length ∧ (∃ m, c.sent[s.l.id.toNat]? = some m ∧ s.l.fr = m.fr ∧ s.l.to = m.to ∧ s.l.data = m.data) ∧ (a.k = 2 → s.l.rd ≤ s.now) ∧ (∃ q, c.all[s.l.id.toNat]? = some q ∧ 0 ≤ q.o ∧ (a.k = 4 → q.o ≤ q.i + 1) ∧ (a.k = 5 → q.o ≤ q.i) ∧ (a.k = 2 ∨ a.k = 3 → q.o + 1 ≤ q.i)))
theorem cons_step {k : Nat} {x : Nt} {c : Cons} (h : Ok x) (hi : ConsI k x c) (a : Ac) : consOk c a (doS x a) ∧ ConsI (k + 1) (doX x a) (consS c (doS x a)) := by
  by_cases he : (actM x a).e = 0
  case neg =>
    refine ⟨fun h0 => absurd ((doS_e x a).symm.trans h0) he, ?_⟩
    rw [doX_no he]
    have : consS c (doS x a) = c := by unfold consS; rw [doS_e, if_pos (.inl he)]
    rw [this]
    exact cons_mono hi rfl rfl
  rw [doS_ok he, doX_ok he]
  by_cases hk : a.k < 1 ∨ 5 < a.k
  · obtain ⟨e1, e2⟩ := act_else a hk he
    refine ⟨fun _ h1 h5 => by omega, ?_⟩
    have : consS c ⟨a, 0, (actM x a).x.now, (actM x a).l, (actM x a).ts⟩ = c := by unfold consS; rw [if_pos (.inr hk)]
    rw [this]
    exact cons_mono hi e1 e2
  by_cases h1 : a.k = 1
  · obtain ⟨e1, e2, e3, e4⟩ := act_send a h1 he
    rw [e3]
    have hs0 := h.s0
    refine ⟨fun _ _ _ => .inl ⟨h1, hi.ls.symm, rfl, rfl, rfl, e2.symm⟩, ?_⟩
    have hc : consS c ⟨a, 0, (actM x a).x.now, ⟨x.next, a.a, a.b, x.now, a.data⟩, (actM x a).ts⟩ = ⟨c.sent ++ [⟨x.next, a.a, a.b, x.now, a.data⟩], c.all ++ [⟨1, 0⟩]⟩ := by
      unfold consS; rw [if_neg (by simp; omega), if_pos h1]
    rw [hc]
    have hl := hi.ls
    have hla := hi.la
    refine ⟨by simp [e1]; omega, by simp [hla], ?_, ?_, ?_, by have := hi.ln; simp; omega⟩
    · intro l hm
      rw [e4] at hm
      rcases List.mem_append.1 hm with hm | hm
      · obtain ⟨m, hm1, hm2⟩ := hi.wy l hm
        exact ⟨m, by rw [List.getElem?_append_left (List.getElem?_eq_some_iff.1 hm1).1]; exact hm1, hm2⟩
      · obtain rfl := List.mem_singleton.1 hm
        refine ⟨_, ?_, rfl, rfl, rfl⟩
        show (c.sent ++ _)[x.next.toNat]? = _
        rw [List.getElem?_append_right (by omega)]
        have : x.next.toNat - c.sent.length = 0 := by omega
        rw [this]; rfl
    · intro j q hq
      rw [e4, cnt_append, cnt_one]
      rcases Nat.lt_or_ge j c.all.length with hj | hj
      · rw [List.getElem?_append_left hj] at hq
        rw [hi.ac j q hq, if_neg (by show ¬ x.next = j; omega)]
        omega
      · rw [List.getElem?_append_right hj] at hq
        have hj0 : j - c.all.length = 0 := by
          have := (List.getElem?_eq_some_iff.1 hq).1
          simpa using this
        rw [hj0] at hq
        have hq' : q = ⟨1, 0⟩ := by simpa using hq.symm
        rw [hq', cnt_zero (fun l hl => by have := letter_id h hl; omega), if_pos (by show x.next = j; omega)]
        rfl
    · intro j q hq
      rcases Nat.lt_or_ge j c.all.length with hj | hj
      · rw [List.getElem?_append_left hj] at hq
        have := hi.bd j q hq
        omega
      · rw [List.getElem?_append_right hj] at hq
        have hj0 : j - c.all.length = 0 := by
          have := (List.getElem?_eq_some_iff.1 hq).1
          simpa using this
        rw [hj0] at hq
        have hq' : q = ⟨1, 0⟩ := by simpa using hq.symm
        rw [hq']
        exact ⟨by decide, by show (1 : Int) ≤ ((k + 1 : Nat) : Int); omega⟩
  · obtain ⟨i, l, hl, e1, e2, e3, e4, e5, e6, hcase⟩ := act_letter a (by omega) (by omega) he
    have hlm := mem_at hl
    have hid := letter_id h hlm
    obtain ⟨m, hm1, hm2, hm3, hm4⟩ := hi.wy l hlm
    have hls := hi.ls
    have hla := hi.la
    have hjl : l.id.toNat < c.all.length := by omega
    have hq : c.all[l.id.toNat]? = some c.all[l.id.toNat] := List.getElem?_eq_getElem hjl
    have hac := hi.ac _ _ hq
    have hbd := hi.bd _ _ hq
    have hpos : 1 ≤ cnt x.way l.id.toNat := by
      have h1 := cnt_erase x.way i l l.id.toNat hl
      have h2 := cnt_nonneg (x.way.eraseIdx i) l.id.toNat
      rw [if_pos (by omega)] at h1
      omega
    constructor
    · intro _ _ _
      refine .inr ⟨by omega, ?_, ?_, ⟨m, ?_, ?_, ?_, ?_⟩, ?_, _, ?_, hbd.1, fun _ => by omega, fun _ => by omega, fun _ => by omega⟩
      · show 0 ≤ (actM x a).l.id; rw [e3]; exact hid.1
      · show (actM x a).l.id < _; rw [e3]; omega
      · show c.sent[(actM x a).l.id.toNat]? = _; rw [e3]; exact hm1
      · show (actM x a).l.fr = _; rw [e4]; exact hm2
      · show (actM x a).l.to = _; rw [e5]; exact hm3
      · show (actM x a).l.data = _; rw [e6]; exact hm4
      · intro hk2
        show (actM x a).l.rd ≤ (actM x a).x.now
        rcases hcase with ⟨-, c1, c2, -⟩ | ⟨c1, -⟩ | ⟨c1, -⟩ | ⟨c1, -⟩
        · rw [c2, e2]; exact c1
        all_goals omega
      · show c.all[(actM x a).l.id.toNat]? = _; rw [e3]; exact hq
    · have hwy : ∀ l' ∈ (actM x a).x.way, ∃ m, c.sent[l'.id.toNat]? = some m ∧ l'.fr = m.fr ∧ l'.to = m.to ∧ l'.data = m.data := by
        intro l' hl'
        rcases hcase with ⟨-, -, -, c4⟩ | ⟨-, c4⟩ | ⟨-, c4⟩ | ⟨-, l2, d1, d2, d3, d4, c4⟩
        · rw [c4] at hl'; exact hi.wy l' (List.mem_of_mem_eraseIdx hl')
        · rw [c4] at hl'; exact hi.wy l' (List.mem_of_mem_eraseIdx hl')
        · rw [c4] at hl'
          rcases List.mem_append.1 hl' with hl' | hl'
          · exact hi.wy l' hl'
          · obtain rfl := List.mem_singleton.1 hl'
            exact hi.wy l' hlm
        · rw [c4] at hl'
          rcases List.mem_or_eq_of_mem_set hl' with hl' | rfl
          · exact hi.wy l' hl'
          · exact ⟨m, by rw [d1]; exact hm1, by rw [d2]; exact hm2, by rw [d3]; exact hm3, by rw [d4]; exact hm4⟩
      have hj : ∀ (j : Nat), (l.id = (j : Int)) ↔ l.id.toNat = j := fun j => by omega
      have base : consS c ⟨a, 0, (actM x a).x.now, (actM x a).l, (actM x a).ts⟩ = if a.k = 4 then ⟨c.sent, c.all.modify l.id.toNat incA⟩ else if a.k = 2 ∨ a.k = 3 then ⟨c.sent, c.all.modify l.id.toNat outA⟩ else c := by
        unfold consS
        rw [if_neg (by simp; omega), if_neg h1, e3]
      rw [base]
      have hout : ∀ (ha : (actM x a).x.way = x.way.eraseIdx i), ConsI (k + 1) (actM x a).x ⟨c.sent, c.all.modify l.id.toNat outA⟩ := fun ha => by
        refine ⟨by rw [e1]; exact hls, by simp [hla], hwy, ?_, ?_, Nat.le_succ_of_le hi.ln⟩
        · intro j q hq'
          rw [ha, cnt_erase x.way i l j hl]
          rw [get_modify] at hq'
          by_cases hij : l.id.toNat = j
          · rw [if_pos hij] at hq'
            rw [if_pos ((hj j).2 hij)]
            obtain ⟨q0, h0, rfl⟩ := Option.map_eq_some_iff.1 hq'
            have := hi.ac j q0 h0
            simp only [outA]
            omega
          · rw [if_neg hij] at hq'
            rw [if_neg (fun h => hij ((hj j).1 h)), hi.ac j q hq']
            omega
        · intro j q hq'
          rw [get_modify] at hq'
          by_cases hij : l.id.toNat = j
          · rw [if_pos hij] at hq'
            obtain ⟨q0, h0, rfl⟩ := Option.map_eq_some_iff.1 hq'
            have := hi.bd j q0 h0
            simp only [outA]
            omega
          · rw [if_neg hij] at hq'
            have := hi.bd j q hq'
            omega
      rcases hcase with ⟨c1, -, -, c4⟩ | ⟨c1, c4⟩ | ⟨c1, c4⟩ | ⟨c1, l2, d1, d2, d3, d4, c4⟩
      · rw [if_neg (by omega), if_pos (.inl c1)]; exact hout c4
      · rw [if_neg (by omega), if_pos (.inr c1)]; exact hout c4
      · rw [if_pos c1]
        refine ⟨by rw [e1]; exact hls, by simp [hla], hwy, ?_, ?_, Nat.le_succ_of_le hi.ln⟩
        · intro j q hq'
          rw [c4, cnt_append, cnt_one]
          rw [get_modify] at hq'
          by_cases hij : l.id.toNat = j
          · rw [if_pos hij] at hq'
            rw [if_pos ((hj j).2 hij)]
            obtain ⟨q0, h0, rfl⟩ := Option.map_eq_some_iff.1 hq'
            have := hi.ac j q0 h0
            simp only [incA]
            omega
          · rw [if_neg hij] at hq'
            rw [if_neg (fun h => hij ((hj j).1 h)), hi.ac j q hq']
            omega
        · intro j q hq'
          rw [get_modify] at hq'
          by_cases hij : l.id.toNat = j
          · rw [if_pos hij] at hq'
            obtain ⟨q0, h0, rfl⟩ := Option.map_eq_some_iff.1 hq'
            have := hi.bd j q0 h0
            simp only [incA]
            omega
          · rw [if_neg hij] at hq'
            have := hi.bd j q hq'
            omega
      · rw [if_neg (by omega), if_neg (by omega)]
        refine ⟨by rw [e1]; exact hls, hla, hwy, ?_, ?_, Nat.le_succ_of_le hi.ln⟩
        · intro j q hq'
          rw [c4, cnt_set x.way i l l2 j hl d1]
          exact hi.ac j q hq'
        · intro j q hq'
          have := hi.bd j q hq'
          omega
/-- The law's state behind the first acts. -/
def consF : Cons → List Sn → Cons
  | c, [] => c
  | c, s :: r => consF (consS c s) r
theorem consF_snoc : ∀ (c : Cons) (l : List Sn) (s : Sn), consF c (l ++ [s]) = consS (consF c l) s
  | c, [], s => rfl
  | c, y :: r, s => by simp only [List.cons_append, consF, consF_snoc]
/-- Behind the letters that are on the way, too. -/
def outW : List Acct → List Lt → List Acct
  | c, [] => c
  | c, l :: r => outW (c.modify l.id.toNat outA) r
theorem outW_snoc : ∀ (c : List Acct) (l : List Lt) (s : Lt), outW c (l ++ [s]) = (outW c l).modify s.id.toNat outA
  | c, [], s => rfl
  | c, y :: r, s => by simp only [List.cons_append, outW, outW_snoc]
theorem outW_len : ∀ (c : List Acct) (l : List Lt), (outW c l).length = c.length
  | c, [] => rfl
  | c, y :: r => by rw [outW, outW_len]; simp
theorem outW_get : ∀ (way : List Lt) (c : List Acct) (j : Nat) (q : Acct), (∀ l ∈ way, 0 ≤ l.id) → c[j]? = some q → (outW c way)[j]? = some ⟨q.i, q.o + cnt way j⟩
  | [], c, j, q, _, h => by simp [outW, h, cnt]
  | l :: r, c, j, q, hw, h => by
    have hl := hw l (by simp)
    have h2 := cnt_append [l] r j
    rw [cnt_one] at h2
    simp only [List.singleton_append] at h2
    rw [outW]
    by_cases hij : l.id.toNat = j
    · rw [outW_get r _ j (outA q) (fun l' h' => hw l' (by simp [h'])) (by rw [get_modify, if_pos hij, h]; rfl), h2, if_pos (by omega)]
      simp only [outA, Option.some.injEq, Acct.mk.injEq, true_and]
      omega
    · rw [outW_get r _ j q (fun l' h' => hw l' (by simp [h'])) (by rw [get_modify, if_neg hij, h]), h2, if_neg (by omega)]
      simp
/-- All is counted. -/
theorem cons_end {k : Nat} {x : Nt} {c : Cons} (h : Ok x) (hi : ConsI k x c) (j : Nat) (q : Acct) (hq : (outW c.all x.way)[j]? = some q) : q.i = q.o := by
  have hj : j < c.all.length := by
    have := (List.getElem?_eq_some_iff.1 hq).1
    rwa [outW_len] at this
  have h0 : c.all[j]? = some c.all[j] := List.getElem?_eq_getElem hj
  rw [outW_get x.way c.all j _ (fun l hl => (letter_id h hl).1) h0] at hq
  have h1 := hi.ac j _ h0
  have h2 : q = ⟨c.all[j].i, c.all[j].o + cnt x.way j⟩ := (Option.some.inj hq).symm
  rw [h2]
  simp only
  omega
theorem cons_new {n : Int} : ConsI 0 ⟨n, 0, 0, [], [], []⟩ ⟨[], []⟩ := ⟨rfl, rfl, by simp, by simp, by simp, Nat.le_refl _⟩
end Go.Proofs.Ythlbmcfliejdiaa
end

section
set_option linter.unusedVariables false
set_option linter.unusedSimpArgs false
namespace Go.Proofs.Ythlbmcfliejdiaa
open Go.RowKit

/-- The timers that wait, behind timers that fired. -/
def dropsF (w : List Tm) : List Tm → List Tm
  | [] => w
  | f :: r => dropsF (othersF f.node f.tag w) r
theorem dropsF_snoc : ∀ (w l : List Tm) (f : Tm), dropsF w (l ++ [f]) = othersF f.node f.tag (dropsF w l)
  | w, [], f => rfl
  | w, y :: r, f => by simp only [List.cons_append, dropsF, dropsF_snoc]
/-- .. behind what was seen of an act: first what is dropped and set, then what fires. -/
def setF (w : List Tm) (s : Sn) : List Tm :=
  if s.a.k = 8 then othersF s.a.a s.a.b w ++ [⟨s.now + s.a.n, s.a.a, s.a.b⟩] else if s.a.k = 9 then othersF s.a.a s.a.b w else w
def fireS (w : List Tm) (s : Sn) : List Tm := if s.e ≠ 0 then w else if s.a.k = 10 then dropsF w s.ts else setF w s
def fireN : List Tm → List Sn → List Tm
  | w, [] => w
  | w, s :: r => fireN (fireS w s) r
theorem fireN_snoc : ∀ (w : List Tm) (l : List Sn) (s : Sn), fireN w (l ++ [s]) = fireS (fireN w l) s
  | w, [], s => rfl
  | w, y :: r, s => by simp only [List.cons_append, fireN, fireN_snoc]
def keyT (t : Tm) : Int × Int := (t.node, t.tag)
theorem isTm_key (t u : Tm) : isTm t.node t.tag u = decide (keyT u = keyT t) := by
  unfold isTm keyT
  rw [Bool.eq_iff_iff]
  simp
theorem others_perm (nd tg : Int) {u v : List Tm} (h : u.Perm v) : (othersF nd tg u).Perm (othersF nd tg v) := h.filter _
/-- One of a list without a pair that stands twice, dropped. -/
theorem others_head {f : Tm} {r : List Tm} (h : ((f :: r).map keyT).Nodup) : othersF f.node f.tag (f :: r) = r := by
  rw [List.map_cons, List.nodup_cons] at h
  unfold othersF
  rw [List.filter_cons_of_neg (by simp [isTm]), List.filter_eq_self]
  intro t ht
  rw [isTm_key]
  simp only [Bool.not_eq_true', decide_eq_false_iff_not]
  intro he
  exact h.1 (List.mem_map.2 ⟨t, ht, he⟩)
theorem others_one {w r : List Tm} {f : Tm} (h : w.Perm (f :: r)) (hn : (w.map keyT).Nodup) : (othersF f.node f.tag w).Perm r ∧ (othersF f.node f.tag w).length + 1 = w.length := by
  have h1 := others_perm f.node f.tag h
  have h2 : ((f :: r).map keyT).Nodup := ((h.map keyT).nodup_iff).1 hn
  rw [others_head h2] at h1
  refine ⟨h1, ?_⟩
  have h3 := h1.length_eq
  have h4 := h.length_eq
  simp only [List.length_cons] at h4
  omega
theorem nodup_drop {w r : List Tm} {f : Tm} (h : (w.map keyT).Nodup) : ((othersF f.node f.tag w).map keyT).Nodup := h.sublist (List.filter_sublist.map keyT)
/-- The k-th of those that fire: it waits, and it alone goes. -/
theorem drops_at {w fs st : List Tm} (h : w.Perm (fs ++ st)) (hn : (w.map keyT).Nodup) : ∀ (k : Nat), k ≤ fs.length → (dropsF w (fs.take k)).Perm (fs.drop k ++ st) ∧ ((dropsF w (fs.take k)).map keyT).Nodup
  | 0, _ => ⟨h, hn⟩
  | k + 1, hk => by
    obtain ⟨a, b⟩ := drops_at h hn k (by omega)
    have hkl : k < fs.length := by omega
    rw [List.take_succ_eq_append_getElem hkl, dropsF_snoc]
    rw [List.drop_eq_getElem_cons hkl, List.cons_append] at a
    exact ⟨(others_one a b).1, nodup_drop (r := []) b⟩
theorem drops_step {w fs st : List Tm} (h : w.Perm (fs ++ st)) (hn : (w.map keyT).Nodup) {k : Nat} {f : Tm} (hf : fs[k]? = some f) : (othersF f.node f.tag (dropsF w (fs.take k))).length + 1 = (dropsF w (fs.take k)).length := by
  obtain ⟨hkl, rfl⟩ := List.getElem?_eq_some_iff.1 hf
  obtain ⟨a, b⟩ := drops_at h hn k (by omega)
  rw [List.drop_eq_getElem_cons hkl, List.cons_append] at a
  exact (others_one a b).2
/-- What waits is what the network has. -/
theorem tick_fires {x : Nt} (he : (tickM x).e = 0) : (tickM x).ts = x.timers.filter (fun t => decide (t.t = x.now + 1)) ∧ (tickM x).x.timers = x.timers.filter (fun t => decide (t.t ≠ x.now + 1)) ∧ (tickM x).x.now = x.now + 1 := by
  unfold tickM at he ⊢
  split at he
  · simp [errR] at he
  rename_i h1
  rw [if_neg h1]
  exact ⟨rfl, rfl, rfl⟩
theorem tick_split (x : Nt) : (x.timers.filter (fun t => decide (t.t = x.now + 1)) ++ x.timers.filter (fun t => decide (t.t ≠ x.now + 1))).Perm x.timers := by
  have h := filter_perm (fun t : Tm => decide (t.t = x.now + 1)) x.timers
  have e : (fun z : Tm => !decide (z.t = x.now + 1)) = (fun t => decide (t.t ≠ x.now + 1)) := by funext t; simp
  rw [e] at h
  exact h
theorem act_else2 {x : Nt} (a : Ac) (h8 : a.k ≠ 8) (h9 : a.k ≠ 9) (h10 : a.k ≠ 10) (he : (actM x a).e = 0) : (actM x a).x.timers = x.timers := by
  unfold actM at he ⊢
  split at he
  · rw [if_pos ‹_›]
    unfold sendM at he ⊢
    split at he
    · simp [errR] at he
    rename_i h1
    split at he
    · simp [errR] at he
    rename_i h2
    split at he
    · simp [errR] at he
    rename_i h3
    rw [if_neg h1, if_neg h2, if_neg h3]
  rename_i n1; rw [if_neg n1]
  split at he
  · rw [if_pos ‹_›]
    unfold deliverM at he ⊢
    split at he
    · simp [errR] at he
    rename_i h1
    rw [if_neg h1]
    split at he
    · simp [errR] at he
    rename_i l hl
    split at he
    · simp [errR] at he
    rename_i h2
    simp only [hl, if_neg h2]
  rename_i n2; rw [if_neg n2]
  split at he
  · rw [if_pos ‹_›]
    unfold loseM at he ⊢
    split at he
    · simp [errR] at he
    rename_i h1
    rw [if_neg h1]
    split at he
    · simp [errR] at he
    rename_i l hl
    simp only [hl]
  rename_i n3; rw [if_neg n3]
  split at he
  · rw [if_pos ‹_›]
    unfold doubleM at he ⊢
    split at he
    · simp [errR] at he
    rename_i h1
    split at he
    · simp [errR] at he
    rename_i h2
    rw [if_neg h1, if_neg h2]
    split at he
    · simp [errR] at he
    rename_i l hl
    simp only [hl]
  rename_i n4; rw [if_neg n4]
  split at he
  · rw [if_pos ‹_›]
    unfold delayM at he ⊢
    split at he
    · simp [errR] at he
    rename_i h1
    split at he
    · simp [errR] at he
    rename_i h2
    rw [if_neg h1, if_neg h2]
    split at he
    · simp [errR] at he
    rename_i l hl
    simp only [hl]
  rename_i n5; rw [if_neg n5]
  split at he
  · rw [if_pos ‹_›]
    unfold cutM at he ⊢
    split at he
    · simp [errR] at he
    rename_i h1
    split at he
    · simp [errR] at he
    rename_i h2
    rw [if_neg h1, if_neg h2]
  rename_i n6; rw [if_neg n6]
  split at he
  · rw [if_pos ‹_›]
    unfold healM at he ⊢
    split at he
    · simp [errR] at he
    rename_i h1
    split at he
    · rename_i h2
      rw [if_neg h1, if_pos h2]
    · simp [errR] at he
  rename_i n7; rw [if_neg n7]
  simp [errR] at he
theorem act_set {x : Nt} (a : Ac) (hk : a.k = 8) (he : (actM x a).e = 0) : (actM x a).x.timers = insS tmCmp ⟨x.now + a.n, a.a, a.b⟩ (othersF a.a a.b x.timers) ∧ (actM x a).x.now = x.now := by
  have e : actM x a = setM x a.a a.b a.n := by unfold actM; simp [hk]
  rw [e] at he ⊢
  unfold setM at he ⊢
  split at he
  · simp [errR] at he
  rename_i h1
  split at he
  · simp [errR] at he
  rename_i h2
  rw [if_neg h1, if_neg h2]
  exact ⟨rfl, rfl⟩
theorem act_stop {x : Nt} (a : Ac) (hk : a.k = 9) (he : (actM x a).e = 0) : (actM x a).x.timers = othersF a.a a.b x.timers := by
  have e : actM x a = stopM x a.a a.b := by unfold actM; simp [hk]
  rw [e] at he ⊢
  unfold stopM at he ⊢
  split at he
  · simp [errR] at he
  rename_i h1
  split at he
  · simp [errR] at he
  rename_i h2
  rw [if_neg h1, if_neg h2]
theorem act_tick {x : Nt} (a : Ac) (hk : a.k = 10) : actM x a = tickM x := by unfold actM; simp [hk]
theorem fire_step {x : Nt} (h : Ok x) (a : Ac) {w : List Tm} (hw : w.Perm x.timers) : (fireS w (doS x a)).Perm (doX x a).timers := by
  by_cases he : (actM x a).e = 0
  case neg =>
    rw [doX_no he]
    have : fireS w (doS x a) = w := by unfold fireS; rw [doS_e, if_pos he]
    rw [this]; exact hw
  rw [doS_ok he, doX_ok he]
  unfold fireS
  rw [if_neg (by simp)]
  by_cases h10 : a.k = 10
  · rw [if_pos h10]
    rw [act_tick a h10] at he ⊢
    obtain ⟨e1, e2, e3⟩ := tick_fires he
    show (dropsF w (tickM x).ts).Perm _
    rw [e1, e2]
    have hn : (w.map keyT).Nodup := ((hw.map keyT).nodup_iff).2 h.nodupT
    have := (drops_at (hw.trans (tick_split x).symm) hn _ (Nat.le_refl _)).1
    rw [List.take_length, List.drop_length, List.nil_append] at this
    exact this
  rw [if_neg h10]
  unfold setF
  by_cases h8 : a.k = 8
  · obtain ⟨e1, e2⟩ := act_set a h8 he
    rw [if_pos h8, e1]
    show (othersF a.a a.b w ++ [(⟨(actM x a).x.now + a.n, a.a, a.b⟩ : Tm)]).Perm _
    rw [e2]
    exact ((List.perm_append_comm).trans ((others_perm a.a a.b hw).cons _)).trans (perm_insS _ _ _).symm
  by_cases h9 : a.k = 9
  · rw [if_neg h8, if_pos h9, act_stop a h9 he]
    exact others_perm a.a a.b hw
  · rw [if_neg h8, if_neg h9, act_else2 a h8 h9 h10 he]
    exact hw
/-- Behind each act what waits is what the network has. -/
theorem fire_at {x : Nt} (h : Ok x) : ∀ (l : List Ac) (k : Nat), k ≤ l.length → ∀ {w : List Tm}, w.Perm x.timers → (fireN w ((playS x l).take k)).Perm (playX x (l.take k)).timers
  | l, 0, _, w, hw => by
    rw [List.take_zero, List.take_zero]; exact hw
  | [], k + 1, hk, w, hw => absurd hk (by simp)
  | a :: l, k + 1, hk, w, hw => by
    show (fireN w ((doSR x a :: playS (doXR x a) l).take (k + 1))).Perm (playX (doXR x a) (l.take k)).timers
    rw [List.take_succ_cons, fireN, doXR_ok h, doSR_ok h]
    exact fire_at (do_keeps h a) l k (by simpa using hk) (fire_step h a hw)
/-- What the law asks of a tick: those that fire rise by node and tag, fire at their tick, and what is left waits on. -/
theorem tick_law2 {x : Nt} (h : Ok x) {w : List Tm} (hw : w.Perm x.timers) (he : (tickM x).e = 0) :
    (∀ f ∈ (tickM x).ts, f.t = (tickM x).x.now) ∧
    (∀ (k : Nat) f g, (tickM x).ts[k]? = some f → (tickM x).ts[k + 1]? = some g → f.node < g.node ∨ f.node = g.node ∧ f.tag < g.tag) ∧
    (∀ (k : Nat) f, (tickM x).ts[k]? = some f → (othersF f.node f.tag (dropsF w ((tickM x).ts.take k))).length + 1 = (dropsF w ((tickM x).ts.take k)).length) ∧
    (∀ t ∈ dropsF w (tickM x).ts, (tickM x).x.now < t.t) ∧ (tickM x).ts.length ≤ 64 := by
  obtain ⟨e1, e2, e3⟩ := tick_fires he
  have hn : (w.map keyT).Nodup := ((hw.map keyT).nodup_iff).2 h.nodupT
  rw [e1, e3]
  refine ⟨fun f hf => ?_, fun k f g hf hg => ?_, fun k f hf => drops_step (hw.trans (tick_split x).symm) hn hf, fun t ht => ?_, Nat.le_trans (List.length_filter_le _ _) h.tms⟩
  · simpa using (List.mem_filter.1 hf).2
  · have hp := ((rises_pair tmOrd _).1 h.risT).filter (fun t => decide (t.t = x.now + 1))
    obtain ⟨k1, rfl⟩ := List.getElem?_eq_some_iff.1 hf
    obtain ⟨k2, rfl⟩ := List.getElem?_eq_some_iff.1 hg
    have h1 := List.pairwise_iff_getElem.1 hp k (k + 1) k1 k2 (by omega)
    have t1 := (List.mem_filter.1 (List.getElem_mem k1)).2
    have t2 := (List.mem_filter.1 (List.getElem_mem k2)).2
    simp only [decide_eq_true_eq] at t1 t2
    have h2 := (timerCmp_lt _ _ _ _ _ _).1 h1
    rw [t1, t2] at h2
    omega
  · have := (drops_at (hw.trans (tick_split x).symm) hn _ (Nat.le_refl _)).1
    rw [List.take_length, List.drop_length, List.nil_append] at this
    have hm := this.subset ht
    obtain ⟨m1, m2⟩ := List.mem_filter.1 hm
    have := later h m1
    simp only [ne_eq, decide_eq_true_eq] at m2
    omega
/-- At the end all that waits fires. -/
theorem fires_all {x : Nt} {k m : Nat} (h : Ok x) (hb : Bd k x) (hk : k ≤ 1000) (hm : m = 1000) : (calmT (noCut x) m).length = x.timers.length := by
  have hn := hb.nw
  obtain ⟨a, b⟩ := calm_tperm (nocut_ok h) m (by show x.now + _ ≤ _; omega)
  have h0 : (calmX (noCut x) m).timers = [] := by
    rw [b, List.filter_eq_nil_iff]
    intro t ht
    have := hb.tm t ht
    have hnn : (noCut x).now = x.now := rfl
    simp only [hnn, decide_eq_true_eq]
    omega
  rw [h0, List.append_nil] at a
  exact a.length_eq
end Go.Proofs.Ythlbmcfliejdiaa
end

section
set_option linter.unusedVariables false
set_option linter.unusedSimpArgs false
namespace Go.Proofs.Ythlbmcfliejdiaa
open Go.RowKit Go.Shelf
attribute [local go_sem] Oper.semAt_some

/-- What lay below n lies as it lay, but for block c. -/
structure BelowX (c n : Nat) (w W : World) : Prop where
  size : w.heap.size ≤ W.heap.size
  blocks : ∀ i, i < n → i ≠ c → W.heap[i]? = w.heap[i]?
theorem BelowX.of {c n : Nat} {w W : World} (h : Below n w W) : BelowX c n w W := ⟨h.size, fun i hi _ => h.block i hi⟩
theorem BelowX.drew {c n : Nat} {w W : World} (h : BelowX c n w W) : BelowX c n w W.drew := ⟨h.size, h.blocks⟩
theorem BelowX.trans {c n : Nat} {w W V : World} (h : BelowX c n w W) (k : BelowX c n W V) : BelowX c n w V := ⟨Nat.le_trans h.size k.size, fun i hi hc => (k.blocks i hi hc).trans (h.blocks i hi hc)⟩
theorem BelowX.block {c : Nat} {w W : World} {g : Nat} {o : Obj} (h : BelowX c w.heap.size w W) (hg : g ≠ c) (ho : w.heap[g]? = some o) : W.heap[g]? = some o := (h.blocks g (bl_lt ho) hg).trans ho
theorem BelowX.cell {c : Nat} {w W : World} {a : Addr} {v : Value} (h : BelowX c w.heap.size w W) (hg : a.block ≠ c) (ho : w.cell? a = some v) : W.cell? a = some v :=
  (World.cell?_of_block (h.blocks a.block (World.block_lt_of_cell? w a ho) hg)).trans ho
theorem Own.belowX {α : Type} [Enc α] {c : Nat} {w W : World} {B : Nat} {e : TypeId} {v : Value} {xs : List α} (h : Own w B e v xs) (hb : BelowX c w.heap.size w W) (hv : v.ownBlock ≠ some c) : Own W B e v xs := by
  refine ⟨h.1, ?_⟩
  rcases h.2 with hn | ⟨g, cap, cur, rfl, hg, hh, rest⟩
  · exact .inl hn
  · exact .inr ⟨g, cap, cur, rfl, hg, hb.block (fun e => hv (by rw [e]; rfl)) hh, rest⟩
theorem rdy_mem {x : Nt} {k : Nat} (h : canI x k = true) (hk : k < x.way.length) : k ∈ rdyF x := List.mem_filter.2 ⟨List.mem_range.2 hk, h⟩
def KptX (c n : Nat) (A B : World) : Prop := BelowX c n A B ∧ KeepsWalks A B
theorem kptx_t {c n : Nat} {A B C : World} (h : KptX c n A B) (k : KptX c n B C) : KptX c n A C := ⟨h.1.trans k.1, walksK_t h.2 k.2⟩
theorem kptx_b {c m : Nat} {w : World} (hn : m ≤ w.heap.size) (W : World) (l : Nat) (o o' : Obj) (hl : w.heap.size ≤ l) (h : W.heap[l]? = some o) (hc : o.isCells = false) (hw : o.isWalk = false) : KptX c m W (W.putObj l o') :=
  ⟨BelowX.of (belowK_b hn W l o o' hl h hc hw), walksK_b W l o o' hl h hc hw⟩

set_option maxHeartbeats 4000000 in
set_option maxRecDepth 100000 in
theorem ready1_inX (n l bx g B cx : Nat) (x : Nt) (w : World) (hbx : w.cell? ⟨bx, 0, none⟩ = some (.pointer (some ⟨g, 0, none⟩))) (hS : St w B g x) (hcb : bx ≠ cx) (hcg : g ≠ cx) (hcr : ∀ j v, w.cell? ⟨g, j, none⟩ = some v → v.ownBlock ≠ some cx) (hnd : (x.cuts.map prL).Nodup) (hlw : x.way.length ≤ 10000000) (hlc : x.cuts.length ≤ 10000000)
    (J Jx : List Nat → World → Prop) (W : World) (hb0 : Below w.heap.size w W) (hJ : AbidesFrom W.heap.size J)
    (hY : ∀ pre (k : Nat) W1, J pre W1 → pre.length < (rdyF x).length → k ∈ rdyF x → YieldAt Fence.wide (n - 1) Try.prog l #[.int .i64 (k : Int)] W1 fun e W' =>
      (e = .returned (.bool true) ∧ J (pre ++ [k]) W' ∧ KptX cx w.heap.size W1 W') ∨ (e = .returned (.bool false) ∧ Jx (pre ++ [k]) W')) (h0 : J [] W) :
    CallsIn Fence.wide n Try.prog 87 #[.func (.yield l) #[] #[], .pointer (some ⟨bx, 0, none⟩)] W fun e W' => (∃ v, e = .returned v) ∧ ((∃ xs, xs = rdyF x ∧ J xs W') ∨ (∃ pre, pre <+: rdyF x ∧ Jx pre W')) := by
  have HBXX : Hid (∀ V, BelowX cx w.heap.size w V → V.cell? ⟨bx, 0, none⟩ = some (.pointer (some ⟨g, 0, none⟩))) := fun V h => h.cell hcb hbx
  have HBX := Lib.hid hbx
  have HS := Lib.hid hS
  have HND := Lib.hid hnd
  have HJ := Lib.hid hJ
  have HY := Lib.hid hY
  have HB0 := Lib.hid hb0
  have H0 := Lib.hid h0
  have hbW := cell_below hb0 hbx
  obtain ⟨AW, cW, AC, cC, AT, cT, hg, hB, oW, oC, oT⟩ := hS.open
  have HGX : Hid (∀ V, BelowX cx w.heap.size w V → V.heap[g]? = some (.cells #[.int .i64 x.nodes, .int .i64 x.now, .int .i64 x.next, .slice AW x.way.length cW, .slice AC x.cuts.length cC, .slice AT x.timers.length cT] 125 (0, 0))) := fun V h => h.block hcg hg
  have hcW := hcr 3 _ (by rw [bl_cell hg 3]; rfl)
  have HG := Lib.hid hg
  have hgW := bl_below hg hb0
  have k4 := bl_cell hgW 4
  have k3 := bl_cell hgW 3
  simp at k4 k3
  have hlt := bl_lt hgW
  have hltb := World.block_lt_of_cell? W _ hbW
  simp only at hltb
  have HRC : Hid (Rd w AC x.cuts) := by
    obtain ⟨A, c, e, _, h⟩ := oC.slice
    cases e
    exact h
  have HRW : Hid (Rd w AW x.way) := by
    obtain ⟨A, c, e, _, h⟩ := oW.slice
    cases e
    exact h
  have HRC2 : Hid (Rd W AC x.cuts) := HRC.out.below hb0
  have HRWX : Hid (∀ V, BelowX cx w.heap.size w V → Rd V AW x.way) := fun V h => (oW.belowX h hcW).rd
  clear hbx hS hnd hJ hY hb0 h0 hg hgW oW oC oT HRC hcW hcr
  refine callsIn_of_wp Try.func87 rfl trivial ?_ rfl
  simp only [Try.ntmps87, List.size_toArray, List.length_cons, List.length_nil, Nat.reduceAdd, Nat.reduceSub, Array.replicate_succ, Array.replicate_zero, List.push_toArray, List.append_toArray, List.nil_append, List.cons_append]
  have hmm := @run_makeMap Try.prog
  gi_wp2
  have hB1 : Hid (Below W.heap.size W (W.alloc (.map #[] 0))) := below_alloc (Below.refl _ _) _
  have hS1 : Hid (IsSet (W.alloc (.map #[] 0)) W.heap.size []) := IsSet.new W
  have hJ1 : Hid (J [] (W.alloc (.map #[] 0))) := ab_below HJ.out H0.out (below_alloc (Below.refl _ _) _)
  gi_loopw [15] (fun i wr => ∃ k : Nat, k ≤ x.cuts.length ∧ i = .int .i64 (k : Int) ∧ Hid (IsSet wr W.heap.size ((x.cuts.take k).map prL)) ∧ Hid (Below W.heap.size W wr) ∧ Hid (J [] wr)) (fun i _ => x.cuts.length - (intOf i).toNat)
  case atStart => exact ⟨0, Nat.zero_le _, rfl, hS1.out, hB1.out, hJ1.out⟩
  case round =>
    clear hS1 hB1 hJ1 k4 k3 hbW
    obtain ⟨k, hk, rfl, hS, hB1, hJ1⟩ := hrel
    by_cases hkl : k < x.cuts.length
    · obtain ⟨b, off, c, rfl, hx, c0, c1⟩ := (HRC2.out.below hB1.out).lk k hkl
      have hbl := World.block_lt_of_cell? wr _ c0
      simp only at hbl
      have hset : Hid (IsSet (wr.alloc (.cells #[.int .i64 c.a, .int .i64 c.b] 100)) W.heap.size ((x.cuts.take k).map prL)) := hS.out.alloc _
      have hnm : (c.a, c.b) ∉ (x.cuts.take k).map prL := by
        have h1 := HND.out
        obtain ⟨hkx, hce⟩ := List.getElem?_eq_some_iff.1 hx.out
        rw [← List.take_append_drop k x.cuts, List.map_append, List.nodup_append] at h1
        intro hm
        refine h1.2.2 _ hm _ ?_ rfl
        rw [List.drop_eq_getElem_cons hkx, hce]
        exact List.mem_cons_self ..
      obtain ⟨w3, hu, hs3, hg3⟩ := link_insert _ W.heap.size _ c.a c.b hset.out hnm
      have HS3 := Lib.hid hs3
      have HG3 := Lib.hid hg3
      clear hnm hs3 hg3
      have hltm : W.heap.size < wr.heap.size := hS.out.lt
      gi_wp2
      go_roundw
      case rel =>
        refine ⟨k + 1, by omega, by go_num, ?_, ?_, ?_⟩
        · show IsSet _ _ _
          have h2 : (x.cuts.take (k + 1)).map prL = (x.cuts.take k).map prL ++ [(c.a, c.b)] := by rw [List.take_add_one, hx.out]; simp [prL]
          rw [h2]; exact HS3.out
        · show Below _ _ _
          have h3 := below_alloc hB1.out (.cells #[.int .i64 c.a, .int .i64 c.b] 100)
          exact h3.grown HG3.out h3.size (fun j e => by cases e; exact Nat.le_refl _)
        · show J [] _
          have h4 := ab_below HJ.out hJ1.out (below_alloc (Below.refl _ wr) (.cells #[.int .i64 c.a, .int .i64 c.b] 100))
          refine HJ.out _ _ _ _ h4 HG3.out (fun r e => ?_)
          cases e
          obtain ⟨es, clock, hb, -⟩ := hset.out
          exact ⟨Nat.le_refl _, _, hb, rfl⟩
      case measure => simp [intOf]; omega
    · obtain rfl : k = x.cuts.length := by omega
      rw [List.take_length] at hS
      have hbr := cell_below hB1.out (cell_below HB0.out HBX.out)
      have hbw : w.heap.size ≤ W.heap.size := HB0.out.size
      have hBr : Hid (BelowX cx w.heap.size w wr) := BelowX.of (HB0.out.trans (hB1.out.mono hbw))
      have k3 := bl_cell (HGX.out _ hBr.out) 3
      simp at k3
      have hl2 := bl_lt (HGX.out _ hBr.out)
      clear HRC2
      gi_wp2
      gi_loopw [28] (fun i wq => ∃ k : Nat, k ≤ x.way.length ∧ i = .int .i64 (k : Int) ∧ Hid (IsSet wq W.heap.size (x.cuts.map prL)) ∧ Hid (BelowX cx w.heap.size w wq) ∧ Hid (J (rdyTo x k) wq)) (fun i _ => x.way.length - (intOf i).toNat)
      case atStart => exact ⟨0, Nat.zero_le _, rfl, hS.out, hBr.out, hJ1.out⟩
      case round =>
        clear hBr k3 hl2 hS hB1 hJ1 hbr
        obtain ⟨k, hk, rfl, hS, hBq, hJq⟩ := hrel
        by_cases hkl : k < x.way.length
        · obtain ⟨b, off, lt, rfl, hx, c0, c1, c2, c3, c4⟩ := (HRWX.out _ hBq.out).lt k hkl
          have hbl := World.block_lt_of_cell? wr _ c0
          simp only at hbl
          gi_wp2
          obtain ⟨Wl, hWl⟩ : ∃ Wl, Wl = wr.alloc (.cells #[.int .i64 lt.id, .int .i64 lt.fr, .int .i64 lt.to, .int .i64 lt.rd, .string lt.data] 33) := ⟨_, rfl⟩
          rw [← hWl]
          have hBl : Hid (Below wr.heap.size wr Wl) := by rw [hWl]; exact below_alloc (Below.refl _ _) _
          have hlb : Wl.heap[wr.heap.size]? = some (.cells #[.int .i64 lt.id, .int .i64 lt.fr, .int .i64 lt.to, .int .i64 lt.rd, .string lt.data] 33 (0, 0)) := by rw [hWl]; exact bl_new _ _
          have hBwl : Hid (BelowX cx w.heap.size w Wl) := hBq.out.trans (BelowX.of (hBl.out.mono hBq.out.size))
          have hSl : Hid (IsSet Wl W.heap.size (x.cuts.map prL)) := hS.out.below hBl.out
          have hJl : Hid (J (rdyTo x k) Wl) := ab_below HJ.out hJq.out hBl.out
          have e1 := bl_cell hlb 1
          have e2 := bl_cell hlb 2
          have e3 := bl_cell hlb 3
          simp at e1 e2 e3
          have hll := bl_lt hlb
          have kb := HBXX.out _ hBwl.out
          have kbl := World.block_lt_of_cell? Wl _ kb
          simp only at kbl
          have kg := bl_cell (HGX.out _ hBwl.out) 1
          simp at kg
          have kgl := bl_lt (HGX.out _ hBwl.out)
          generalize wr.heap.size = bx2 at *
          clear hWl hlb c0 c1 c2 c3 c4 hbl
          by_cases hrd : lt.rd ≤ x.now
          · have hd : decide (lt.rd ≤ x.now) = true := decide_eq_true hrd
            have HRD := Lib.hid hrd
            clear hrd
            refine wpIn_mix [(0, true), (1, true), (2, true), (3, true), (4, true), (5, true), (6, true), (7, true), (8, true), (9, true), (10, true), (11, true), (12, true), (13, true), (14, false), (15, true), (16, true), (17, true), (18, true), (19, true), (20, true)] 21
              (fun w' => Below Wl.heap.size Wl w')
              (by kernel_rfl) (by kernel_rfl) (by kernel_rfl) (by kernel_rfl) (by kernel_rfl) (fun d _ _ _ _ h => by cases d <;> exact h) (Below.refl _ _).drew ?_
            simp only [pick, List.map_cons, List.map_nil, List.getD_cons_zero, List.getD_cons_succ, List.drop_succ_cons, List.drop_zero]
            iterate 14
              apply mixIn_take
              case hw => rfl
              case hy => intro W' hW; obtain ⟨hwc, -⟩ := bcell hW; go_simp; try rfl
              simp only [Act.put, List.setIfInBounds_toArray, List.set_cons_zero, List.set_cons_succ]
            refine mixIn_do fun K' hK' => ?_
            gi_wp2_with fail
            refine ⟨trivial, fun h => absurd h (by simp [Fence.wide]), callsIn_below (link_any lt.fr lt.to _) ?_⟩
            intro w2 hb2
            have hb2' : Below Wl.heap.size Wl w2 := below_trans (Below.refl _ Wl).drew hb2
            gi_wp2
            refine hK' _ _ hb2' ?_
            clear hK' K'
            have HB2 := Lib.hid hb2'
            have hJ2 : Hid (J (rdyTo x k) w2) := ab_below HJ.out hJl.out hb2'
            have hS2 : Hid (IsSet w2 W.heap.size (x.cuts.map prL)) := hSl.out.below hb2'
            have hBw2 : Hid (BelowX cx w.heap.size w w2) := hBwl.out.trans (BelowX.of (hb2'.mono hBwl.out.size))
            clear hb2 hb2'
            by_cases hm : ((mkLk lt.fr lt.to).a, (mkLk lt.fr lt.to).b) ∈ x.cuts.map prL
            · have hmd : decide (((mkLk lt.fr lt.to).a, (mkLk lt.fr lt.to).b) ∈ x.cuts.map prL) = true := decide_eq_true hm
              have HM := Lib.hid hmd
              clear hm hmd
              iterate 4
                apply mixIn_take
                case hw => rfl
                case hy => intro W' hW; have hlk := link_lookup W' W.heap.size _ (mkLk lt.fr lt.to).a (mkLk lt.fr lt.to).b (hSl.out.below hW); rw [HM.out] at hlk; obtain ⟨hwc, -⟩ := bcell hW; go_simp; try rfl
                simp only [Act.put, List.setIfInBounds_toArray, List.set_cons_zero, List.set_cons_succ]
              iterate 2
                apply mixIn_skip
                case hw => simp [Region.wanted, yielded, *]
                simp only [Act.put, List.setIfInBounds_toArray, List.set_cons_zero, List.set_cons_succ]
              refine mixIn_nil ?_
              gi_wp2
              refine ⟨fun _ h => (by cases h), ?_⟩
              gi_wp2
              go_roundw
              case rel =>
                refine ⟨k + 1, by omega, by go_num, hS2.out, hBw2.out, ?_⟩
                show J _ _
                have hci : canI x k = false := by unfold canI; rw [hx.out]; show canB x lt = false; unfold canB; rw [HM.out]; simp
                rw [rdyTo_succ, hci]
                exact hJ2.out
              case measure => simp [intOf]; omega
            · have hmd : decide (((mkLk lt.fr lt.to).a, (mkLk lt.fr lt.to).b) ∈ x.cuts.map prL) = false := decide_eq_false hm
              have HM := Lib.hid hmd
              have hci : Hid (canI x k = true) := by
                show _ = _
                unfold canI; rw [hx.out]; show canB x lt = true; unfold canB; rw [hmd, decide_eq_true HRD.out]; rfl
              clear hm hmd
              iterate 6
                apply mixIn_take
                case hw => rfl
                case hy => intro W' hW; have hlk := link_lookup W' W.heap.size _ (mkLk lt.fr lt.to).a (mkLk lt.fr lt.to).b (hSl.out.below hW); rw [HM.out] at hlk; obtain ⟨hwc, -⟩ := bcell hW; go_simp; try rfl
                simp only [Act.put, List.setIfInBounds_toArray, List.set_cons_zero, List.set_cons_succ]
              refine mixIn_nil ?_
              have hlen : (rdyTo x k).length < (rdyF x).length := by
                have h1 := (rdyTo_pre x (k + 1) x.way.length (by omega)).length_le
                rw [rdyTo_succ, hci.out] at h1
                simp at h1
                exact h1
              obtain ⟨fn, tmps, assign, body, hy, hR⟩ := HY.out (rdyTo x k) k w2 hJ2.out hlen (rdy_mem hci.out hkl)
              gi_wp2
              refine ⟨fun h => absurd h (by simp [Fence.wide]), hR.mono ?_⟩
              rintro e W3 (⟨rfl, hJ3, hk3⟩ | ⟨rfl, hJx3⟩)
              · gi_wp2
                go_roundw
                case rel =>
                  refine ⟨k + 1, by omega, by go_num, hS2.out.walks hk3.2, hBw2.out.trans hk3.1, ?_⟩
                  show J _ _
                  rw [rdyTo_succ, hci.out]
                  exact hJ3
                case measure => simp [intOf]; omega
              · have hpf : rdyTo x k ++ [k] <+: rdyF x := by
                  have h1 := rdyTo_pre x (k + 1) x.way.length (by omega)
                  rw [rdyTo_succ, hci.out] at h1
                  exact h1
                have HPF := Lib.hid hpf
                clear hpf
                gi_wp2
                refine bodyPost_ret (results_none rfl _ _ _) rfl ?_
                exact ⟨⟨_, rfl⟩, .inr ⟨rdyTo x k ++ [k], HPF.out, hJx3⟩⟩
          · have hd : decide (lt.rd ≤ x.now) = false := decide_eq_false hrd
            have HRD := Lib.hid hrd
            clear hrd
            refine wpIn_mix [(0, true), (1, true), (2, true), (3, true), (4, true), (5, true), (6, true), (7, true), (8, true), (9, true), (10, true), (11, true), (12, true), (13, true), (14, true), (15, true), (16, true), (17, true), (18, true), (19, true), (20, true)] 21
              (fun w' => Below Wl.heap.size Wl w')
              (by kernel_rfl) (by kernel_rfl) (by kernel_rfl) (by kernel_rfl) (by kernel_rfl) (fun d _ _ _ _ h => by cases d <;> exact h) (Below.refl _ _).drew ?_
            simp only [pick, List.map_cons, List.map_nil, List.getD_cons_zero, List.getD_cons_succ, List.drop_succ_cons, List.drop_zero]
            iterate 9
              apply mixIn_take
              case hw => rfl
              case hy => intro W' hW; obtain ⟨hwc, -⟩ := bcell hW; go_simp; try rfl
              simp only [Act.put, List.setIfInBounds_toArray, List.set_cons_zero, List.set_cons_succ]
            iterate 8
              apply mixIn_skip
              case hw => simp [Region.wanted, yielded, *]
              simp only [Act.put, List.setIfInBounds_toArray, List.set_cons_zero, List.set_cons_succ]
            iterate 2
              apply mixIn_take
              case hw => rfl
              case hy => intro W' hW; obtain ⟨hwc, -⟩ := bcell hW; go_simp; try rfl
              simp only [Act.put, List.setIfInBounds_toArray, List.set_cons_zero, List.set_cons_succ]
            iterate 2
              apply mixIn_skip
              case hw => simp [Region.wanted, yielded, *]
              simp only [Act.put, List.setIfInBounds_toArray, List.set_cons_zero, List.set_cons_succ]
            refine mixIn_nil ?_
            gi_wp2
            refine ⟨fun _ h => (by cases h), ?_⟩
            gi_wp2
            go_roundw
            case rel =>
              refine ⟨k + 1, by omega, by go_num, hSl.out, hBwl.out.drew, ?_⟩
              show J _ _
              have hci : canI x k = false := by unfold canI; rw [hx.out]; show canB x lt = false; unfold canB; rw [decide_eq_false (by have := HRD.out; omega)]; rfl
              rw [rdyTo_succ, hci]
              exact ab_below HJ.out hJl.out (Below.refl _ _).drew
            case measure => simp [intOf]; omega
        · obtain rfl : k = x.way.length := by omega
          gi_wp2
          go_end0
          exact ⟨⟨_, rfl⟩, .inl ⟨rdyF x, rfl, hJq.out⟩⟩

/-- .. over the places that are ready, and no others. -/
theorem ready_stopsS (n bx g B c : Nat) (x : Nt) (w : World) (hbx : w.cell? ⟨bx, 0, none⟩ = some (.pointer (some ⟨g, 0, none⟩))) (hS : St w B g x) (hcb : bx ≠ c) (hcg : g ≠ c) (hcr : ∀ j v, w.cell? ⟨g, j, none⟩ = some v → v.ownBlock ≠ some c) (hnd : (x.cuts.map prL).Nodup) (hlw : x.way.length ≤ 10000000) (hlc : x.cuts.length ≤ 10000000) :
    SeqStopsK Fence.wide n Try.prog 87 #[.pointer (some ⟨bx, 0, none⟩)] (fun k : { k : Nat // k ∈ rdyF x } => #[.int .i64 (k.1 : Int)]) (KptX c w.heap.size) (fun xs => xs.map (·.1) = rdyF x) (fun pre => pre.map (·.1) <+: rdyF x) (rdyF x).length w := by
  intro l J Jx W hb hJ _ hY h0
  refine CallsIn.mono (ready1_inX n l bx g B c x w hbx hS hcb hcg hcr hnd hlw hlc (fun p V => ∃ q : List { k : Nat // k ∈ rdyF x }, q.map (·.1) = p ∧ J q V) (fun p V => ∃ q : List { k : Nat // k ∈ rdyF x }, q.map (·.1) = p ∧ Jx q V) W hb
    (fun p A B row h hg hr => by obtain ⟨q, hq, hj⟩ := h; exact ⟨q, hq, hJ q A B row hj hg hr⟩) ?_ ⟨[], rfl, h0⟩) ?_
  · rintro pre k W1 ⟨q, rfl, hj⟩ hlen hk
    refine (hY q ⟨k, hk⟩ W1 hj (by simpa using hlen)).mono ?_
    rintro e W' (⟨rfl, h1, h2⟩ | ⟨rfl, h1⟩)
    · exact .inl ⟨rfl, ⟨q ++ [⟨k, hk⟩], by simp, h1⟩, h2⟩
    · exact .inr ⟨rfl, ⟨q ++ [⟨k, hk⟩], by simp, h1⟩⟩
  · rintro e W' ⟨hv, ⟨xs, rfl, q, hq, hj⟩ | ⟨pre, hp, q, rfl, hj⟩⟩
    · exact ⟨hv, .inl ⟨q, hq, hj⟩⟩
    · exact ⟨hv, .inr ⟨q, hp, hj⟩⟩
end Go.Proofs.Ythlbmcfliejdiaa
end

section
set_option linter.unusedVariables false
set_option linter.unusedSimpArgs false
namespace Go.Proofs.Ythlbmcfliejdiaa
open Go.RowKit Go.Shelf
attribute [local go_sem] Oper.semAt_some

theorem wpListIn_app {α : Type} [Enc α] {F : Fence} {n : Nat} {P : Program} {ops : Array Oper} {rest : List Oper} {o : Oper} {a : Act} {Q : Exit → Act → World → Prop} (W : World) (base : Nat) (hgd : o.guard = none) (s x : Operand) (t e : TypeId) (z : Value) (bytes : Nat)
    (ho : o.op = .call { callee := .builtin .append, args := #[s, x], argTypes := #[t, t] })
    (ht : P.underlying t = some (.slice e)) (hinfo : (P.info? e).map (fun i => (i.zero, i.size, i.bytes)) = some (some z, Enc.sz α, bytes)) (hz : z.cells.size = Enc.sz α) (hs0 : 0 < Enc.sz α) (hb0 : 0 < bytes)
    (v : Value) (xs ys : List α) (A : Option Addr) (c : Nat) (hs : a.eval s = v) (hx : a.eval x = .slice A ys.length c) (HO : Own W base e v xs) (HR : Rd W A ys) (hbase : base ≤ W.heap.size) (hl : (xs.length + ys.length) * bytes ≤ 140737488355328)
    (h : ∀ v1 w1, Own w1 base e v1 (xs ++ ys) → W.grownBy w1 v.ownBlock → (v1.ownBlock = v.ownBlock ∨ v1.ownBlock = some W.heap.size) → wpListIn F n P ops Q rest (a.put o.dst v1) w1) :
    wpListIn F n P ops Q (o :: rest) a W := by
  obtain ⟨v1, w1, hr, h1, h2, h3⟩ := run_app (P := P) W base t o.type e z bytes ht hinfo hz hs0 hb0 v xs ys A c HO HR hbase hl
  refine wpListIn_plain hgd fun K hK => ?_
  unfold Oper.wpIn
  refine ⟨?_, ?_⟩
  · simp [Oper.about, ho, resolve, Target.leads, Sem.run_pure]
  · rw [Oper.semAt_plain F _ _ (by rw [ho]; intro c hc'; cases hc')]
    simp [execOp, ho, resolve, invoke, builtin, hs, hx, hr, Result.andThen]
    exact hK _ _ (h v1 w1 h1 h2 h3)

theorem wpIn_scopeW {n : Nat} {P : Program} {c : Code} {Q : Exit → Act → World → Prop} {a : Act} {w : World} (h : c.wpIn Fence.wide n P (Exit.noGoto Q) a w) : (Code.scope c).wpIn Fence.wide n P Q a w :=
  wpIn_wide.2 (wp_scope_straight (wpIn_wide.1 h))
/-- The walk stops here. -/
theorem stop_here {p : Prop} (h : Hid p) : p := h
theorem bl_newZ {w : World} {o : Obj} {n : Nat} (h : w.heap.size = n) : (w.alloc o).heap[n]? = some o := h ▸ bl_new w o

/-! States with marks. -/
def stD (n : Nat) (f : Nat → Value) (ds : List Deferred) : Act := ⟨((List.range n).map f).toArray, ds⟩
theorem stD_of {l : List Value} {ds : List Deferred} (n : Nat) (h : l.length = n) : (⟨l.toArray, ds⟩ : Act) = stD n (fun i => l.getD i undef) ds := by
  have := st_of n h
  unfold st at this
  unfold stD
  simp only [Act.mk.injEq, and_true] at this ⊢
  exact this
theorem stD_getD {n i : Nat} {f : Nat → Value} {ds : List Deferred} (h : i < n) : (stD n f ds).tmps.getD i undef = f i := st_getD h
def Marks (Ds : List Nat) : List Deferred := Ds.map fun D => { target := .collected D, args := #[] }
theorem leaves_marks {F : Fence} {n m : Nat} {P : Program} {fn : Func} {tmps : Array Value} {R : Ending → World → Prop} {C : World → Prop} {v : Value} (hC : ∀ W D, C W → W.heap[D]? = some (.deferred (some [])) → m ≤ D → C (W.putObj D (.deferred none)))
    (hend : ∀ W, C W → (results fn tmps).run P W = .ok v W ∧ R (.returned v) W) : ∀ (Ds : List Nat) (W : World), C W → Ds.Nodup → (∀ D ∈ Ds, m ≤ D ∧ W.heap[D]? = some (.deferred (some []))) → LeavesInM F n P fn tmps R (Marks Ds) .returning W
  | [], W, h, _, _ => ⟨v, hend W h⟩
  | D :: r, W, h, hn, hd => by
    obtain ⟨h1, h2⟩ := hd D (by simp)
    rw [List.nodup_cons] at hn
    refine ⟨by simp, .inl ⟨D, _, rfl, run_takeDeferred h2, leaves_marks hC hend r _ (hC _ _ h h2 h1) hn.2 (fun E hE => ?_)⟩⟩
    obtain ⟨h3, h4⟩ := hd E (by simp [hE])
    refine ⟨h3, ?_⟩
    have hne : E ≠ D := fun e => hn.1 (e ▸ hE)
    exact (World.putObj_heap_other hne).trans h4

/-! What is kept. -/
theorem Own.cellsAt {α : Type} [Enc α] {w : World} {B : Nat} {e : TypeId} {v : Value} {xs : List α} (h : Own w B e v xs) {b : Nat} (hb : v.ownBlock = some b) : ∃ c t f, w.heap[b]? = some (.cells c t f) := by
  rcases h.2 with ⟨rfl, _⟩ | ⟨g', cap, cur, rfl, _, hh, _⟩
  · simp [Value.ownBlock] at hb
  · simp only [Value.ownBlock, Option.some.injEq] at hb
    subst hb
    exact ⟨_, _, _, hh⟩
theorem Own.blk {α : Type} [Enc α] {w W : World} {B : Nat} {e : TypeId} {v : Value} {xs : List α} (h : Own w B e v xs) (hb : ∀ b, v.ownBlock = some b → W.heap[b]? = w.heap[b]?) : Own W B e v xs := by
  refine ⟨h.1, ?_⟩
  rcases h.2 with hn | ⟨g, cap, cur, rfl, hg, hh, rest⟩
  · exact .inl hn
  · exact .inr ⟨g, cap, cur, rfl, hg, (hb g rfl).trans hh, rest⟩
theorem Free.other {w : World} {B g D : Nat} {x : Nt} {o : Obj} (h : St w B g x) (hD : w.heap[D]? = some o) (ho : o.isCells = false) : Free w g D := by
  obtain ⟨vW, vC, vT, hg, hB, oW, oC, oT⟩ := h
  have hno : ∀ {c : Array Value} {t : TypeId} {f : Nat × Nat} {b : Nat}, w.heap[b]? = some (.cells c t f) → b ≠ D := fun hb e => by
    rw [e, hD] at hb; cases hb; cases ho
  refine ⟨bl_lt hD, (hno hg).symm, fun j v hv => ?_⟩
  rw [bl_cell hg j] at hv
  match j, hv with
  | 0, hv => cases hv; simp [Value.ownBlock]
  | 1, hv => cases hv; simp [Value.ownBlock]
  | 2, hv => cases hv; simp [Value.ownBlock]
  | 3, hv => cases hv; exact fun e => by obtain ⟨c, t, f, hc⟩ := oW.cellsAt e; exact hno hc rfl
  | 4, hv => cases hv; exact fun e => by obtain ⟨c, t, f, hc⟩ := oC.cellsAt e; exact hno hc rfl
  | 5, hv => cases hv; exact fun e => by obtain ⟨c, t, f, hc⟩ := oT.cellsAt e; exact hno hc rfl
  | (j + 6), hv => simp at hv
theorem Free.fresh {w W : World} {B g : Nat} {x : Nt} (h : St w B g x) {row : Option Nat} (hg : w.grownBy W row) (hr : ∀ r, row = some r → r ≠ g) {b : Nat} (hb : b = w.heap.size) (hbW : b < W.heap.size) : Free W g b := by
  have hlt := h.lt
  have h1 := Free.new h (.cells #[] 0)
  have e1 : W.heap[g]? = w.heap[g]? := hg.block g hlt (fun e => hr g e.symm rfl)
  have e2 : (w.alloc (.cells #[] 0)).heap[g]? = w.heap[g]? := Below.heap_alloc w _ g hlt
  refine ⟨hbW, by omega, fun j v hv => ?_⟩
  rw [hb]
  refine h1.2.2 j v ?_
  rw [World.cell?_of_block (e2.trans e1.symm)]
  exact hv
theorem Free.grown {w W : World} {g b : Nat} {row : Option Nat} (h : Free w g b) (hlt : g < w.heap.size) (hg : w.grownBy W row) (hr : ∀ r, row = some r → r ≠ g) : Free W g b := by
  have e1 : W.heap[g]? = w.heap[g]? := hg.block g hlt (fun e => hr g e.symm rfl)
  refine ⟨Nat.lt_of_lt_of_le h.1 hg.size, h.2.1, fun j v hv => h.2.2 j v ?_⟩
  rw [← World.cell?_of_block e1]; exact hv
theorem St.grown {w W : World} {B g : Nat} {x : Nt} {row : Option Nat} (h : St w B g x) (hg : w.grownBy W row) (hr : ∀ r, row = some r → Free w g r) : St W B g x := by
  have hlt := h.lt
  obtain ⟨vW, vC, vT, hgg, hB, oW, oC, oT⟩ := h
  have hno : ∀ j v, w.cell? ⟨g, j, none⟩ = some v → v.ownBlock = none ∨ v.ownBlock ≠ row := fun j v hv => by
    cases hrow : row with
    | none => cases v.ownBlock <;> simp
    | some r => exact .inr ((hr r hrow).2.2 j v hv)
  refine ⟨vW, vC, vT, ?_, hB, oW.kept hg (hno 3 _ (by rw [bl_cell hgg 3]; rfl)), oC.kept hg (hno 4 _ (by rw [bl_cell hgg 4]; rfl)), oT.kept hg (hno 5 _ (by rw [bl_cell hgg 5]; rfl))⟩
  exact (hg.block g hlt (fun e => (hr g e.symm).2.1 rfl)).trans hgg

/-- Calm's state: the network at g; the letters and the timers in rows of their own; the marks. -/
structure CalmS (w2 : World) (g : Nat) (y : Nt) (L : List Lt) (T : List Tm) (u10 u11 : Value) (Ds : List Nat) (W : World) : Prop where
  st : St W w2.heap.size g y
  ol : Own W w2.heap.size 33 u10 L
  ot : Own W w2.heap.size 86 u11 T
  fl : ∀ b, u10.ownBlock = some b → Free W g b
  ft : ∀ b, u11.ownBlock = some b → Free W g b
  bw : Below w2.heap.size w2 W
  nd : Ds.Nodup
  ms : ∀ D ∈ Ds, w2.heap.size ≤ D ∧ W.heap[D]? = some (.deferred (some []))
section
variable {w2 W W' : World} {g : Nat} {y : Nt} {L : List Lt} {T : List Tm} {u10 u11 : Value} {Ds : List Nat}
theorem CalmS.below (h : CalmS w2 g y L T u10 u11 Ds W) (hb : Below W.heap.size W W') : CalmS w2 g y L T u10 u11 Ds W' := by
  have hlt := h.st.lt
  exact ⟨h.st.below hb, h.ol.below hb, h.ot.below hb, fun b e => (h.fl b e).below hlt hb, fun b e => (h.ft b e).below hlt hb, h.bw.trans (hb.mono h.bw.size), h.nd, fun D hD => ⟨(h.ms D hD).1, bl_below (h.ms D hD).2 hb⟩⟩
theorem CalmS.frm (h : CalmS w2 g y L T u10 u11 Ds W) {y' : Nt} (hS : St W' w2.heap.size g y') (hB : Below w2.heap.size W W') (hF : Frm W W' g) : CalmS w2 g y' L T u10 u11 Ds W' :=
  ⟨hS, h.ol.blk (fun b e => (hF b (h.fl b e)).1), h.ot.blk (fun b e => (hF b (h.ft b e)).1), fun b e => (hF b (h.fl b e)).2, fun b e => (hF b (h.ft b e)).2, h.bw.trans hB, h.nd,
    fun D hD => ⟨(h.ms D hD).1, (hF D (Free.other h.st (h.ms D hD).2 rfl)).1.trans (h.ms D hD).2⟩⟩
theorem CalmS.mth (h : CalmS w2 g y L T u10 u11 Ds W) {r : Rs} (hm : mthW w2.heap.size g W r W') (he : r.e = 0) : CalmS w2 g r.x L T u10 u11 Ds W' := by
  rcases hm with ⟨h1, -⟩ | ⟨-, h2, h3, h4⟩
  · exact absurd he h1
  · exact h.frm h2 h3 h4
theorem CalmS.letters (h : CalmS w2 g y L T u10 u11 Ds W) {v1 : Value} {L1 : List Lt} (ho : Own W' w2.heap.size 33 v1 L1) (hg : W.grownBy W' u10.ownBlock) (hat : v1.ownBlock = u10.ownBlock ∨ v1.ownBlock = some W.heap.size) : CalmS w2 g y L1 T v1 u11 Ds W' := by
  have hlt := h.st.lt
  have hne : ∀ r, u10.ownBlock = some r → r ≠ g := fun r e => (h.fl r e).2.1
  refine ⟨h.st.grown hg h.fl, ho, h.ot.kept hg (h.ot.ne_own h.ol (by decide)), fun b e => ?_, fun b e => (h.ft b e).grown hlt hg hne, h.bw.grown hg h.bw.size (fun k hk => (h.ol.lt k hk).1), h.nd, fun D hD => ⟨(h.ms D hD).1, ?_⟩⟩
  · rcases hat with hat | hat
    · exact (h.fl b (hat.symm.trans e)).grown hlt hg hne
    · exact Free.fresh h.st hg hne (Option.some.inj (e.symm.trans hat)) (ho.lt b e).2
  · refine (hg.block D (bl_lt (h.ms D hD).2) (fun e => ?_)).trans (h.ms D hD).2
    obtain ⟨c, t, f, hc⟩ := h.ol.cellsAt e.symm
    rw [(h.ms D hD).2] at hc; cases hc
theorem CalmS.timers (h : CalmS w2 g y L T u10 u11 Ds W) {v1 : Value} {T1 : List Tm} (ho : Own W' w2.heap.size 86 v1 T1) (hg : W.grownBy W' u11.ownBlock) (hat : v1.ownBlock = u11.ownBlock ∨ v1.ownBlock = some W.heap.size) : CalmS w2 g y L T1 u10 v1 Ds W' := by
  have hlt := h.st.lt
  have hne : ∀ r, u11.ownBlock = some r → r ≠ g := fun r e => (h.ft r e).2.1
  refine ⟨h.st.grown hg h.ft, h.ol.kept hg (h.ol.ne_own h.ot (by decide)), ho, fun b e => (h.fl b e).grown hlt hg hne, fun b e => ?_, h.bw.grown hg h.bw.size (fun k hk => (h.ot.lt k hk).1), h.nd, fun D hD => ⟨(h.ms D hD).1, ?_⟩⟩
  · rcases hat with hat | hat
    · exact (h.ft b (hat.symm.trans e)).grown hlt hg hne
    · exact Free.fresh h.st hg hne (Option.some.inj (e.symm.trans hat)) (ho.lt b e).2
  · refine (hg.block D (bl_lt (h.ms D hD).2) (fun e => ?_)).trans (h.ms D hD).2
    obtain ⟨c, t, f, hc⟩ := h.ot.cellsAt e.symm
    rw [(h.ms D hD).2] at hc; cases hc
theorem CalmS.mark (h : CalmS w2 g y L T u10 u11 Ds W) (hb : Below W.heap.size W W') {D : Nat} (hD : W.heap.size ≤ D) (hd : W'.heap[D]? = some (.deferred (some []))) : CalmS w2 g y L T u10 u11 (D :: Ds) W' := by
  have h' := h.below hb
  refine ⟨h'.st, h'.ol, h'.ot, h'.fl, h'.ft, h'.bw, List.nodup_cons.2 ⟨fun hm => ?_, h'.nd⟩, fun E hE => ?_⟩
  · have := bl_lt (h.ms D hm).2; omega
  · rcases List.mem_cons.1 hE with rfl | hE
    · exact ⟨Nat.le_trans h.bw.size hD, hd⟩
    · exact h'.ms E hE
end
end Go.Proofs.Ythlbmcfliejdiaa
end

section
set_option linter.unusedVariables false
set_option linter.unusedSimpArgs false
namespace Go.Proofs.Ythlbmcfliejdiaa
open Go.RowKit Go.Shelf
attribute [local go_sem] Oper.semAt_some

theorem kept_netO {W W' : World} {row : Option Nat} {B : Nat} {v : Value} {x : Nt} (h : NetO W B v x) (hg : W.grownBy W' row) (hr : ∀ r, row = some r → ∃ o : Obj, W.heap[r]? = some o ∧ o.isCells = false) : NetO W' B v x := by
  obtain ⟨AW, cW, AC, cC, AT, cT, rfl, hW, hC, hT⟩ := h
  exact ⟨AW, cW, AC, cC, AT, cT, rfl, kept_own hW hg hr, kept_own hC hg hr, kept_own hT hg hr⟩
/-- Four results: a struct that lies in memory, three values. -/
theorem res_cttt {P : Program} {fn : Func} {tmps : Array Value} {w : World} {p u1 u2 u3 : Tmp} {ty : TypeId} {v1 v2 v3 : Value} (h : fn.results = #[.cell p ty, .tmp u1, .tmp u2, .tmp u3]) (g : Nat) (t : TypeId) (cs : Array Value) (d : TypeDesc) (hp : tmps.getD p undef = .pointer (some ⟨g, 0, none⟩)) (hg : w.heap[g]? = some (.cells cs t (0, 0)))
    (hu : P.underlying ty = some d) (hd : (match d with | .struct _ | .array _ _ => true | _ => false) = true) (hi : (P.info? ty).map (·.size) = some cs.size) (h1 : tmps.getD u1 undef = v1) (h2 : tmps.getD u2 undef = v2) (h3 : tmps.getD u3 undef = v3) :
    (results fn tmps).run P w = .ok (.tuple #[.agg cs, v1, v2, v3]) w := by
  have hp' : tmps[p]?.getD undef = .pointer (some ⟨g, 0, none⟩) := by simpa using hp
  have e1 : tmps[u1]?.getD undef = v1 := by simpa using h1
  have e2 : tmps[u2]?.getD undef = v2 := by simpa using h2
  have e3 : tmps[u3]?.getD undef = v3 := by simpa using h3
  simp [results, h, hp', e1, e2, e3, asAddr, run_loadVar_row w g t ty cs (0, 0) d hg hu hd hi]
def firstLp : Code → Option Code
  | .loop c => some c
  | .seq a b => match firstLp a with
    | some c => some c
    | none => firstLp b
  | .block _ c => firstLp c
  | .scope c => firstLp c
  | .cond _ a b => match firstLp a with
    | some c => some c
    | none => firstLp b
  | _ => none
noncomputable def calmOut : Code := ((Try.f40.body.bind firstLp).getD .skip)
noncomputable def calmInn : Code := ((firstLp calmOut).getD .skip)
set_option maxRecDepth 100000 in
theorem stD_all (f : Nat → Value) (ds : List Deferred) : stD 84 f ds = ⟨#[f 0, f 1, f 2, f 3, f 4, f 5, f 6, f 7, f 8, f 9, f 10, f 11, f 12, f 13, f 14, f 15, f 16, f 17, f 18, f 19, f 20, f 21, f 22, f 23, f 24, f 25, f 26, f 27, f 28, f 29, f 30, f 31, f 32, f 33, f 34, f 35, f 36, f 37, f 38, f 39, f 40, f 41, f 42, f 43, f 44, f 45, f 46, f 47, f 48, f 49, f 50, f 51, f 52, f 53, f 54, f 55, f 56, f 57, f 58, f 59, f 60, f 61, f 62, f 63, f 64, f 65, f 66, f 67, f 68, f 69, f 70, f 71, f 72, f 73, f 74, f 75, f 76, f 77, f 78, f 79, f 80, f 81, f 82, f 83], ds⟩ := by
  have h : List.range 84 = [0, 1, 2, 3, 4, 5, 6, 7, 8, 9, 10, 11, 12, 13, 14, 15, 16, 17, 18, 19, 20, 21, 22, 23, 24, 25, 26, 27, 28, 29, 30, 31, 32, 33, 34, 35, 36, 37, 38, 39, 40, 41, 42, 43, 44, 45, 46, 47, 48, 49, 50, 51, 52, 53, 54, 55, 56, 57, 58, 59, 60, 61, 62, 63, 64, 65, 66, 67, 68, 69, 70, 71, 72, 73, 74, 75, 76, 77, 78, 79, 80, 81, 82, 83] := by decide +kernel
  unfold stD
  rw [h]
  rfl
/-- What is known at the head of a round of the inner loop. -/
def calmI (w2 : World) (g : Nat) (x0 : Nt) (L0 : List Lt) (T : List Tm) (p4 u11 : Value) (lf : Nat) (a : Act) (W : World) : Prop :=
  ∃ f Ds y L u10, a = stD 84 f (Marks Ds) ∧ f 4 = p4 ∧ f 8 = .pointer (some ⟨g, 0, none⟩) ∧ f 10 = u10 ∧ f 11 = u11 ∧ f 12 = .int .i64 (lf : Int) ∧ Hid (CalmS w2 g y L T u10 u11 Ds W) ∧ Hid (Ok y) ∧ Hid (Dlv x0 L0 y L)
def calmMu (g : Nat) (_ : Act) (W : World) : Nat := match W.cell? ⟨g, 3, none⟩ with
  | some (.slice _ n _) => n
  | _ => 0
theorem calmMu_at {w2 : World} {g : Nat} {y : Nt} {L : List Lt} {T : List Tm} {u10 u11 : Value} {Ds : List Nat} {W : World} (h : CalmS w2 g y L T u10 u11 Ds W) (a : Act) : calmMu g a W = y.way.length := by
  obtain ⟨AW, cW, AC, cC, AT, cT, hg, -, -, -, -⟩ := h.st.open
  unfold calmMu
  rw [bl_cell hg 3]
  rfl
set_option maxHeartbeats 4000000 in
set_option maxRecDepth 100000 in
theorem calm_more (w2 : World) (g : Nat) (x0 : Nt) (L0 : List Lt) (T : List Tm) (p4 u10 u11 : Value) (lf : Nat) (f : Nat → Value) (Ds : List Nat) (y : Nt) (L : List Lt) (wr : World) (Q0 : Exit → Act → World → Prop)
    (h4 : f 4 = p4) (h8 : f 8 = .pointer (some ⟨g, 0, none⟩)) (h10 : f 10 = u10) (h11 : f 11 = u11) (h12 : f 12 = .int .i64 (lf : Int)) (hl1 : 1 ≤ lf) (hl2 : lf ≤ 1000)
    (HS : Hid (CalmS w2 g y L T u10 u11 Ds wr)) (HO : Hid (Ok y)) (HD : Hid (Dlv x0 L0 y L)) (HC : Hid (x0.cuts = [])) (hLL : L.length ≤ 1000000) (i : Nat) (r : List Nat) (HR : Hid (rdyF y = i :: r)) :
    calmInn.wpIn Fence.wide 9 Try.prog (Exit.then (fun a' w' => calmI w2 g x0 L0 T p4 u11 lf a' w' ∧ calmMu g a' w' < calmMu g (stD 84 f (Marks Ds)) wr) Q0) (stD 84 f (Marks Ds)) wr := by
  conv => arg 4; whnf
  have hmu := Lib.hid (calmMu_at HS.out (stD 84 f (Marks Ds)))
  rw [hmu.out]
  rw [stD_all, h4, h8, h10, h11, h12]
  clear h4 h8 h10 h11 h12
  have hgl := HS.out.st.lt
  gi_wp2_with (refine ⟨trivial, ?_⟩; gi_at_call 47; refine (callsIn_wide.2 (ready_any _ _)).mono ?_; rintro e w' ⟨rfl, rfl⟩)
  obtain ⟨W0, hW0⟩ : ∃ W0, W0 = (wr.alloc (.cells #[.int .i64 (-1)] 3)).alloc (.cells #[.pointer (some ⟨g, 0, none⟩)] 90) := ⟨_, rfl⟩
  rw [← hW0]
  have HB0 : Hid (Below wr.heap.size wr W0) := by rw [hW0]; exact below_alloc (below_alloc (Below.refl _ _) _) _
  have hsz : W0.heap.size = wr.heap.size + 2 := by rw [hW0]; simp
  have HAT : Hid (W0.heap[wr.heap.size]? = some (.cells #[.int .i64 (-1)] 3 (0, 0))) := by
    rw [hW0]; exact bl_alloc (bl_new wr _) _
  have HBX : Hid (W0.heap[wr.heap.size + 1]? = some (.cells #[.pointer (some ⟨g, 0, none⟩)] 90 (0, 0))) := by
    rw [hW0]; exact bl_newZ (by simp)
  have HS0 := Lib.hid (HS.out.below HB0.out)
  clear hW0
  have hcx : ∀ j v, W0.cell? ⟨g, j, none⟩ = some v → v.ownBlock ≠ some wr.heap.size := by
    intro j v hv
    have h1 := (Free.new HS.out.st (.cells #[] 0)).2.2 j v
    rw [World.cell?_of_block (Below.heap_alloc wr _ g hgl)] at h1
    rw [World.cell?_of_block (HB0.out.block g hgl)] at hv
    exact h1 hv
  have hbx := bl_cell HBX.out 0
  simp at hbx
  refine wpIn_rangeFunc_ownH (F := Fence.wide) rfl (by decide) (gf := 87) (lb := #[.pointer (some ⟨wr.heap.size + 1, 0, none⟩)]) rfl trivial (enters_of Try.func87 (by kernel_rfl) rfl)
    (ready_stopsS 8 (wr.heap.size + 1) g w2.heap.size wr.heap.size y W0 hbx HS0.out.st (by omega) (by omega) hcx HO.out.nodupC (by have := HO.out.way; omega) (by have := HO.out.cuts256; omega)) kptx_t (kptx_b (Nat.le_refl _)) (Below.refl _ _) (fun _ => rfl)
    (fun pre W => pre = [] ∧ Below wr.heap.size W0 W ∧ ∃ v, W.heap[wr.heap.size]? = some (.cells #[v] 3 (0, 0)) ∧ (rdyF y = [] → v = .int .i64 (-1)))
    (fun c pre W => c = .exit 5 ∧ ∃ k, pre.map (·.1) = [k] ∧ Below wr.heap.size W0 W ∧ W.heap[wr.heap.size]? = some (.cells #[.int .i64 (k : Int)] 3 (0, 0)))
    ?hI ?hIx ?h0 (fun x a' W => Below wr.heap.size W0 W ∧ W.heap[wr.heap.size]? = some (.cells #[.int .i64 (x.1 : Int)] 3 (0, 0))) ?hAx ?assign ?body ?done ?stop
  case hI =>
    intro s A V row hs hg hr
    obtain ⟨h1, h2, v, h3, h4⟩ := hs
    exact ⟨h1, h2.grown hg (Nat.le_trans (by omega) h2.size) (fun k e => by have := (hr k e).1; omega), v, kept_cells h3 hg (fun r e => (hr r e).2), h4⟩
  case hIx =>
    intro c s A V row hs hg hr
    obtain ⟨h1, k, h2, h3, h4⟩ := hs
    exact ⟨h1, k, h2, h3.grown hg (Nat.le_trans (by omega) h3.size) (fun k e => by have := (hr k e).1; omega), kept_cells h4 hg (fun r e => (hr r e).2)⟩
  case h0 => exact ⟨rfl, (Below.refl _ _), _, HAT.out, fun _ => rfl⟩
  case hAx =>
    intro x a' s A V row hs hg hr
    exact ⟨hs.1.grown hg (Nat.le_trans (by omega) hs.1.size) (fun k e => by have := (hr k e).1; omega), kept_cells hs.2 hg (fun r e => (hr r e).2)⟩
  case assign =>
    rintro l pre x W K ⟨rfl, hB, v, hv, hnil⟩ hK
    have hne : rdyF y ≠ [] := List.ne_nil_of_mem x.2
    have y0 := bl_cell hv 0
    have y1 := bl_frozen hv 0
    have y2 := bl_lt hv
    have HK := Lib.hid hK
    have HV := Lib.hid hv
    have HBW := Lib.hid hB
    have HNE := Lib.hid hne
    clear hK hv hB hnil hne
    simp at y0
    gi_wp2
    refine HK.out _ _ ((KeepsOthers.setCell _ _ _).from _) ⟨⟨by simp [World.setCell], fun i hi hne => Below.heap_setCell _ _ _ _ hne⟩, (KeepsOthers.setCell _ _ _).walks⟩ ⟨by trivial, HBW.out.setCell (p := ⟨wr.heap.size, 0, none⟩) (Nat.le_refl _) _, _, by simpa using bl_set HV.out 0 (.int .i64 (x.1 : Int)), fun h => absurd h HNE.out⟩ ⟨HBW.out.setCell (p := ⟨wr.heap.size, 0, none⟩) (Nat.le_refl _) _, by simpa using bl_set HV.out 0 (.int .i64 (x.1 : Int))⟩
  case body =>
    rintro l pre x a' W hl hlr ⟨rfl, hB, -⟩ ⟨hB2, hv⟩ hlen
    refine wpIn_block ?_
    refine wpIn_exit ?_
    exact ⟨KeepsFrom.refl _ _, rfl, x.1, rfl, hB2, hv⟩
  case done =>
    rintro D xs W hD hxs ⟨rfl, -⟩ hK
    exact absurd (hxs.symm.trans rfl) (by rw [HR.out]; simp)
  case stop =>
    rintro D c pre W hD hpre ⟨rfl, k, hpk, hB, hv⟩ hK
    rw [hpk, HR.out] at hpre
    have hki : k = i := by simpa using hpre
    subst hki
    have HS1 := Lib.hid (HS.out.mark (HB0.out.trans hB) (by omega) hK)
    have y0 := bl_cell hv 0
    simp at y0
    have ylt := bl_lt hv
    obtain ⟨l, hdl, hd2, hlen⟩ := dlv_step HD.out HC.out HR.out
    have HDL := Lib.hid hdl
    have HD2 := Lib.hid hd2
    have HLEN := Lib.hid hlen
    have HO2 : Hid (Ok { y with way := y.way.eraseIdx k }) := erase_keeps HO.out k
    have hbs := HS1.out.bw.size
    clear hpre hpk hB hv hK hdl hd2 hlen HB0 HAT HBX hcx hbx HS0 hsz
    gi_wp2_with (first
      | (refine ⟨trivial, ?_⟩; gi_at_call 76; refine (callsIn_wide.2 (deliver_m w2.heap.size g y (k : Int) _ HS1.out.st HO.out hbs)).mono ?_; rintro e w5 ⟨rfl, hm⟩; rw [HDL.out] at hm; have HS2 := Lib.hid (HS1.out.mth hm rfl); clear hm; rw [HDL.out])
      | (gi_at_builtin; refine stop_here ?_))
    have HS3 := Lib.hid (HS2.out.below (below_alloc (below_alloc (Below.refl _ _) (.cells #[.int .i64 l.id, .int .i64 l.fr, .int .i64 l.to, .int .i64 l.rd, .string l.data] 33)) (.cells #[.int .i64 l.id, .int .i64 l.fr, .int .i64 l.to, .int .i64 l.rd, .string l.data] 33)))
    change wpListIn _ _ _ _ _ _ _ (World.alloc (w5.alloc _) _)
    refine wpListIn_app _ w2.heap.size rfl (.tmp 66) (.tmp 68) 22 33 _ 48 rfl Try.underlying22 infoW rfl (by decide) (by decide) u10 L [l] (some ⟨w5.heap.size + 1, 0, none⟩) 1 rfl rfl HS3.out.ol ?hR ?hB ?hL ?_
    case hR =>
      have h := Rd.new (w5.alloc (.cells #[.int .i64 l.id, .int .i64 l.fr, .int .i64 l.to, .int .i64 l.rd, .string l.data] 33)) 33 l #[.int .i64 l.id, .int .i64 l.fr, .int .i64 l.to, .int .i64 l.rd, .string l.data] rfl
      simp only [World.size_alloc] at h
      exact h
    case hB => exact HS3.out.bw.size
    case hL => simp; omega
    intro v1 w8 ho hg hat
    have HS4 := Lib.hid (HS3.out.letters ho hg hat)
    clear ho hg hat
    gi_wp2
    refine ⟨⟨_, D :: Ds, _, _, _, stD_of 84 (by rfl), rfl, rfl, rfl, rfl, rfl, HS4, HO2, HD2⟩, ?_⟩
    rw [calmMu_at HS4.out]
    have := HLEN.out
    show (y.way.eraseIdx k).length < _
    omega
set_option maxHeartbeats 4000000 in
set_option maxRecDepth 100000 in
theorem calm_none (w2 : World) (g : Nat) (x0 : Nt) (L0 : List Lt) (T : List Tm) (p4 u10 u11 : Value) (lf : Nat) (f : Nat → Value) (Ds : List Nat) (y : Nt) (L : List Lt) (wr : World) (Q0 : Exit → Act → World → Prop)
    (h4 : f 4 = p4) (h8 : f 8 = .pointer (some ⟨g, 0, none⟩)) (h10 : f 10 = u10) (h11 : f 11 = u11) (h12 : f 12 = .int .i64 (lf : Int)) (hl1 : 1 ≤ lf) (hl2 : lf ≤ 1000)
    (HS : Hid (CalmS w2 g y L T u10 u11 Ds wr)) (HO : Hid (Ok y)) (HD : Hid (Dlv x0 L0 y L)) (HC : Hid (x0.cuts = [])) (hLL : L.length ≤ 1000000) (HR : Hid (rdyF y = [])) (hx3 : ∀ (l : List Value) (E : List Nat) (V : World), l.length = 84 → l.getD 4 undef = p4 → l.getD 8 undef = .pointer (some ⟨g, 0, none⟩) → l.getD 10 undef = u10 → l.getD 11 undef = u11 → l.getD 12 undef = .int .i64 (lf : Int) → CalmS w2 g y L T u10 u11 E V → Q0 (.exit 3) ⟨l.toArray, Marks E⟩ V) :
    calmInn.wpIn Fence.wide 9 Try.prog (Exit.then (fun a' w' => calmI w2 g x0 L0 T p4 u11 lf a' w' ∧ calmMu g a' w' < calmMu g (stD 84 f (Marks Ds)) wr) Q0) (stD 84 f (Marks Ds)) wr := by
  conv => arg 4; whnf
  have hmu := Lib.hid (calmMu_at HS.out (stD 84 f (Marks Ds)))
  rw [hmu.out]
  rw [stD_all, h4, h8, h10, h11, h12]
  clear h4 h8 h10 h11 h12
  have hgl := HS.out.st.lt
  gi_wp2_with (refine ⟨trivial, ?_⟩; gi_at_call 47; refine (callsIn_wide.2 (ready_any _ _)).mono ?_; rintro e w' ⟨rfl, rfl⟩)
  obtain ⟨W0, hW0⟩ : ∃ W0, W0 = (wr.alloc (.cells #[.int .i64 (-1)] 3)).alloc (.cells #[.pointer (some ⟨g, 0, none⟩)] 90) := ⟨_, rfl⟩
  rw [← hW0]
  have HB0 : Hid (Below wr.heap.size wr W0) := by rw [hW0]; exact below_alloc (below_alloc (Below.refl _ _) _) _
  have hsz : W0.heap.size = wr.heap.size + 2 := by rw [hW0]; simp
  have HAT : Hid (W0.heap[wr.heap.size]? = some (.cells #[.int .i64 (-1)] 3 (0, 0))) := by
    rw [hW0]; exact bl_alloc (bl_new wr _) _
  have HBX : Hid (W0.heap[wr.heap.size + 1]? = some (.cells #[.pointer (some ⟨g, 0, none⟩)] 90 (0, 0))) := by
    rw [hW0]; exact bl_newZ (by simp)
  have HS0 := Lib.hid (HS.out.below HB0.out)
  clear hW0
  have hcx : ∀ j v, W0.cell? ⟨g, j, none⟩ = some v → v.ownBlock ≠ some wr.heap.size := by
    intro j v hv
    have h1 := (Free.new HS.out.st (.cells #[] 0)).2.2 j v
    rw [World.cell?_of_block (Below.heap_alloc wr _ g hgl)] at h1
    rw [World.cell?_of_block (HB0.out.block g hgl)] at hv
    exact h1 hv
  have hbx := bl_cell HBX.out 0
  simp at hbx
  refine wpIn_rangeFunc_ownH (F := Fence.wide) rfl (by decide) (gf := 87) (lb := #[.pointer (some ⟨wr.heap.size + 1, 0, none⟩)]) rfl trivial (enters_of Try.func87 (by kernel_rfl) rfl)
    (ready_stopsS 8 (wr.heap.size + 1) g w2.heap.size wr.heap.size y W0 hbx HS0.out.st (by omega) (by omega) hcx HO.out.nodupC (by have := HO.out.way; omega) (by have := HO.out.cuts256; omega)) kptx_t (kptx_b (Nat.le_refl _)) (Below.refl _ _) (fun _ => rfl)
    (fun pre W => pre = [] ∧ Below wr.heap.size W0 W ∧ ∃ v, W.heap[wr.heap.size]? = some (.cells #[v] 3 (0, 0)) ∧ (rdyF y = [] → v = .int .i64 (-1)))
    (fun c pre W => c = .exit 5 ∧ ∃ k, pre.map (·.1) = [k] ∧ Below wr.heap.size W0 W ∧ W.heap[wr.heap.size]? = some (.cells #[.int .i64 (k : Int)] 3 (0, 0)))
    ?hI ?hIx ?h0 (fun x a' W => Below wr.heap.size W0 W ∧ W.heap[wr.heap.size]? = some (.cells #[.int .i64 (x.1 : Int)] 3 (0, 0))) ?hAx ?assign ?body ?done ?stop
  case hI =>
    intro s A V row hs hg hr
    obtain ⟨h1, h2, v, h3, h4⟩ := hs
    exact ⟨h1, h2.grown hg (Nat.le_trans (by omega) h2.size) (fun k e => by have := (hr k e).1; omega), v, kept_cells h3 hg (fun r e => (hr r e).2), h4⟩
  case hIx =>
    intro c s A V row hs hg hr
    obtain ⟨h1, k, h2, h3, h4⟩ := hs
    exact ⟨h1, k, h2, h3.grown hg (Nat.le_trans (by omega) h3.size) (fun k e => by have := (hr k e).1; omega), kept_cells h4 hg (fun r e => (hr r e).2)⟩
  case h0 => exact ⟨rfl, (Below.refl _ _), _, HAT.out, fun _ => rfl⟩
  case hAx =>
    intro x a' s A V row hs hg hr
    exact ⟨hs.1.grown hg (Nat.le_trans (by omega) hs.1.size) (fun k e => by have := (hr k e).1; omega), kept_cells hs.2 hg (fun r e => (hr r e).2)⟩
  case assign =>
    rintro l pre x W K ⟨rfl, hB, v, hv, hnil⟩ hK
    have hne : rdyF y ≠ [] := List.ne_nil_of_mem x.2
    have y0 := bl_cell hv 0
    have y1 := bl_frozen hv 0
    have y2 := bl_lt hv
    have HK := Lib.hid hK
    have HV := Lib.hid hv
    have HBW := Lib.hid hB
    have HNE := Lib.hid hne
    clear hK hv hB hnil hne
    simp at y0
    gi_wp2
    refine HK.out _ _ ((KeepsOthers.setCell _ _ _).from _) ⟨⟨by simp [World.setCell], fun i hi hne => Below.heap_setCell _ _ _ _ hne⟩, (KeepsOthers.setCell _ _ _).walks⟩ ⟨by trivial, HBW.out.setCell (p := ⟨wr.heap.size, 0, none⟩) (Nat.le_refl _) _, _, by simpa using bl_set HV.out 0 (.int .i64 (x.1 : Int)), fun h => absurd h HNE.out⟩ ⟨HBW.out.setCell (p := ⟨wr.heap.size, 0, none⟩) (Nat.le_refl _) _, by simpa using bl_set HV.out 0 (.int .i64 (x.1 : Int))⟩
  case body =>
    rintro l pre x a' W hl hlr ⟨rfl, hB, -⟩ ⟨hB2, hv⟩ hlen
    refine wpIn_block ?_
    refine wpIn_exit ?_
    exact ⟨KeepsFrom.refl _ _, rfl, x.1, rfl, hB2, hv⟩
  case done =>
    rintro D xs W hD hxs ⟨rfl, hB, v, hv, hnil⟩ hK
    obtain rfl := hnil HR.out
    have HS1 := Lib.hid (HS.out.mark (HB0.out.trans hB) (by omega) hK)
    have y0 := bl_cell hv 0
    simp at y0
    have ylt := bl_lt hv
    have HDL := Lib.hid (deliver_no y)
    have hbs := HS1.out.bw.size
    clear hB hv hK HB0 HAT HBX hcx hbx HS0 hsz hnil
    gi_wp2_with (refine ⟨trivial, ?_⟩; gi_at_call 76; refine (callsIn_wide.2 (deliver_m w2.heap.size g y (-1) _ HS1.out.st HO.out hbs)).mono ?_; rintro e w5 ⟨rfl, hm⟩; rw [HDL.out] at hm; have HS2 := Lib.hid (HS1.out.below (by rcases hm with ⟨-, h⟩ | ⟨h, -⟩ <;> first | exact h | exact absurd h (by decide))); clear hm; rw [HDL.out])
    exact hx3 _ (D :: Ds) _ rfl rfl rfl rfl rfl rfl (HS2.out.below (below_alloc (Below.refl _ _) _))
  case stop =>
    rintro D c pre W hD hpre ⟨rfl, k, hpk, hB, hv⟩ hK
    rw [hpk, HR.out] at hpre
    simp at hpre
/-- What is known at the head of a tick. -/
def calmO (w2 : World) (g : Nat) (x : Nt) (N : Nat) (p4 : Value) (a : Act) (W : World) : Prop :=
  ∃ (k : Nat) (f : Nat → Value) (Ds : List Nat) (u10 u11 : Value), a = stD 84 f (Marks Ds) ∧ k ≤ N ∧ f 4 = p4 ∧ f 8 = .pointer (some ⟨g, 0, none⟩) ∧ f 10 = u10 ∧ f 11 = u11 ∧ f 12 = .int .i64 ((N - k : Nat) : Int) ∧ Hid (CalmS w2 g (calmX x k) (calmL x k) (calmT x k) u10 u11 Ds W)
def calmMo (a : Act) (_ : World) : Nat := (intOf (a.tmps.getD 12 undef)).toNat
set_option maxHeartbeats 4000000 in
set_option maxRecDepth 100000 in
theorem calm_tick (w2 : World) (g : Nat) (x : Nt) (N k : Nat) (p4 u10 u11 : Value) (f : Nat → Value) (Ds : List Nat) (wr : World) (Q0 : Exit → Act → World → Prop)
    (h4 : f 4 = p4) (h8 : f 8 = .pointer (some ⟨g, 0, none⟩)) (h10 : f 10 = u10) (h11 : f 11 = u11) (h12 : f 12 = .int .i64 ((N - k : Nat) : Int)) (hk : k < N) (hN : N ≤ 1000)
    (HX : Hid (Ok x)) (HC : Hid (x.cuts = [])) (hlim : x.now + N ≤ 1099511627776) (HS : Hid (CalmS w2 g (calmX x k) (calmL x k) (calmT x k) u10 u11 Ds wr)) :
    calmOut.wpIn Fence.wide 9 Try.prog (Exit.then (fun a' w' => calmO w2 g x N p4 a' w' ∧ calmMo a' w' < calmMo (stD 84 f (Marks Ds)) wr) Q0) (stD 84 f (Marks Ds)) wr := by
  conv => arg 4; whnf
  have hmu : Hid (calmMo (stD 84 f (Marks Ds)) wr = N - k) := by
    show _ = _
    unfold calmMo
    rw [stD_getD (by decide), h12]; rfl
  rw [hmu.out]
  obtain ⟨x0, hx0⟩ : ∃ z, z = calmX x k := ⟨_, rfl⟩
  obtain ⟨L0, hL0⟩ : ∃ z, z = calmL x k := ⟨_, rfl⟩
  obtain ⟨T0, hT0⟩ : ∃ z, z = calmT x k := ⟨_, rfl⟩
  obtain ⟨lf, hlf⟩ : ∃ z, z = N - k := ⟨_, rfl⟩
  have hca := calm_at HX.out k (by omega)
  have hlen : L0.length + x0.way.length ≤ 200 := by
    have h1 := (calm_perm HX.out k (by omega)).length_eq
    have h2 := HX.out.way
    rw [hL0, hx0, ← List.length_append, h1]; exact h2
  have hlenT : T0.length + x0.timers.length ≤ 64 := by
    have h1 := (calm_tperm HX.out k (by omega)).1.length_eq
    have h2 := HX.out.tms
    rw [hT0, hx0, ← List.length_append, h1]; exact h2
  have HSX : Hid (calmX x (k + 1) = calm1 x0 ∧ calmL x (k + 1) = L0 ++ dueF x0.now x0.way ∧ calmT x (k + 1) = T0 ++ (tickM x0).ts) := by rw [hx0, hL0, hT0]; exact ⟨rfl, rfl, rfl⟩
  rw [← hx0, ← hL0, ← hT0] at HS
  rw [← hx0] at hca
  rw [← hlf] at h12 ⊢
  have hnow : ¬ x0.now = 1099511627776 := by have := hca.2.1; omega
  have HCA := Lib.hid hca
  have HC0 : Hid (x0.cuts = []) := hca.2.2.1.trans HC.out
  have HLF : Hid (lf = N - k) := hlf
  have HNW := Lib.hid hnow
  have hl1 : 1 ≤ lf := by omega
  have hl2 : lf ≤ 1000 := by omega
  clear hx0 hL0 hT0 hlf hca hnow hmu
  rw [stD_all, h4, h8, h10, h11, h12]
  clear h4 h8 h10 h11 h12
  gi_wp2
  rw [stD_of (ds := Marks Ds) 84 (by rfl)]
  refine wpIn_loop (calmI w2 g x0 L0 T0 p4 u11 lf) (calmMu g) ⟨_, Ds, x0, L0, u10, rfl, rfl, rfl, rfl, rfl, rfl, HS, HCA.out.1, dlv_start x0 L0⟩ ?_
  rintro a W ⟨f, Es, y, L, v10, rfl, h4, h8, h10, h11, h12, HSy, HOy, HDy⟩
  have hLl : L.length ≤ 1000000 := by
    have h1 := congrArg List.length HDy.out.2.2.1
    have h2 : (dueF x0.now x0.way).length ≤ x0.way.length := List.length_filter_le _ _
    rw [List.length_append, List.length_append] at h1
    omega
  obtain ⟨rd, hrd⟩ : ∃ r, r = rdyF y := ⟨_, rfl⟩
  cases rd with
  | cons i r => exact calm_more w2 g x0 L0 T0 p4 v10 u11 lf f Es y L W _ h4 h8 h10 h11 h12 hl1 hl2 HSy HOy HDy HC0 hLl i r hrd.symm
  | nil =>
    refine calm_none w2 g x0 L0 T0 p4 v10 u11 lf f Es y L W _ h4 h8 h10 h11 h12 hl1 hl2 HSy HOy HDy HC0 hLl hrd.symm ?_
    clear h4 h8 h10 h11 h12 HSy f W
    intro l E V hl e4 e8 e10 e11 e12 hCS
    obtain ⟨hy, hL⟩ := dlv_end HDy.out HC0.out hrd.symm
    rw [hL] at hCS
    have htk := tick_m w2.heap.size g y V hCS.st HOy.out hCS.bw.size
    have hte : (tickM y).e = 0 := by rw [hy, (tick_ways x0 _).2]; unfold tickM; rw [if_neg HNW.out]
    have htx : (tickM y).x = calm1 x0 := by rw [hy]; rfl
    have htt : (tickM y).ts = (tickM x0).ts := by rw [hy, (tick_ways x0 _).1]
    have hlt : (tickM x0).ts.length ≤ x0.timers.length := by unfold tickM; rw [if_neg HNW.out]; exact List.length_filter_le _ _
    obtain ⟨rt, hrt⟩ : ∃ r, r = tickM y := ⟨_, rfl⟩
    rw [← hrt] at htk hte htx htt
    obtain ⟨rx, rid, rl, rts, re⟩ := rt
    simp only at htk hte htx htt
    subst hte htx htt
    have HTK := Lib.hid htk
    have HCS := Lib.hid hCS
    clear htk hCS hrt hy hL hrd HOy HDy
    have hst := stD_of (ds := Marks E) 84 hl
    rw [hst, stD_all, e4, e8, e10, e11, e12]
    clear hst e4 e8 e10 e11 e12 hl
    gi_wp2_with (first
      | (refine ⟨trivial, ?_⟩; gi_at_call 72; refine (callsIn_wide.2 HTK.out).mono ?_; rintro e w5 ⟨v, rfl, ho, hm⟩; obtain ⟨A5, c5, rfl, -, hR5⟩ := ho.slice; have HR5 := Lib.hid hR5; have HS2 := Lib.hid (HCS.out.mth hm rfl); clear hm ho hR5)
      | (gi_at_builtin; refine stop_here ?_))
    refine wpListIn_app _ w2.heap.size rfl (.tmp 75) (.tmp 76) 24 86 _ 24 rfl Try.underlying24 infoT rfl (by decide) (by decide) u11 T0 (tickM x0).ts A5 c5 rfl rfl HS2.out.ot HR5.out HS2.out.bw.size (by omega) ?_
    intro v1 w8 ho hg hat
    have HS4 := Lib.hid (HS2.out.timers ho hg hat)
    clear ho hg hat HS2 HCS
    gi_wp2
    obtain ⟨s1, s2, s3⟩ := HSX.out
    have hNk : ((lf : Int) - 1) = ((N - (k + 1) : Nat) : Int) := by have := HLF.out; omega
    refine ⟨⟨k + 1, _, E, _, _, stD_of 84 (by rfl), by omega, rfl, rfl, rfl, rfl, ?_, ?_⟩, ?_⟩
    · show Value.int .i64 ((lf : Int) - 1) = _; rw [hNk]
    · show CalmS _ _ _ _ _ _ _ _ _; rw [s1, s2, s3]; exact HS4.out
    · show (intOf (.int .i64 ((lf : Int) - 1))).toNat < lf
      simp [intOf]; omega
set_option maxHeartbeats 4000000 in
set_option maxRecDepth 100000 in
theorem calm_last (w2 : World) (g : Nat) (x : Nt) (N k : Nat) (p4 u10 u11 : Value) (f : Nat → Value) (Ds : List Nat) (wr : World) (Q0 : Exit → Act → World → Prop)
    (h4 : f 4 = p4) (h8 : f 8 = .pointer (some ⟨g, 0, none⟩)) (h10 : f 10 = u10) (h11 : f 11 = u11) (h12 : f 12 = .int .i64 ((N - k : Nat) : Int)) (hk : k = N) (hN : N ≤ 1000)
    (HX : Hid (Ok x)) (HC : Hid (x.cuts = [])) (hlim : x.now + N ≤ 1099511627776) (HS : Hid (CalmS w2 g (calmX x k) (calmL x k) (calmT x k) u10 u11 Ds wr))
    (hx1 : ∀ (l : List Value) (E : List Nat) (V : World), l.length = 84 → l.getD 4 undef = p4 → l.getD 8 undef = .pointer (some ⟨g, 0, none⟩) → l.getD 10 undef = u10 → l.getD 11 undef = u11 → CalmS w2 g (calmX x N) (calmL x N) (calmT x N) u10 u11 E V → Q0 (.exit 1) ⟨l.toArray, Marks E⟩ V) :
    calmOut.wpIn Fence.wide 9 Try.prog (Exit.then (fun a' w' => calmO w2 g x N p4 a' w' ∧ calmMo a' w' < calmMo (stD 84 f (Marks Ds)) wr) Q0) (stD 84 f (Marks Ds)) wr := by
  subst hk
  conv => arg 4; whnf
  have hca := calm_at HX.out k (by omega)
  have hlen : (calmL x k).length ≤ 200 := by
    have h1 := (calm_perm HX.out k (by omega)).length_eq
    have h2 := HX.out.way
    rw [List.length_append] at h1; omega
  rw [Nat.sub_self] at h12
  rw [stD_all, h4, h8, h10, h11, h12]
  clear h4 h8 h10 h11 h12
  gi_wp2
  refine wpIn_loop_once ?_
  gi_wp2
  exact hx1 _ Ds _ rfl rfl rfl rfl rfl HS.out
set_option maxHeartbeats 4000000 in
set_option maxRecDepth 100000 in
theorem calm_in (x : Nt) (N : Nat) (v : Value) (w : World) (hV : NetV w v x) (hx : Ok x) (hN : N ≤ 1000) (hlim : x.now + N ≤ 1099511627776) :
    CallsIn Fence.wide 9 Try.prog 40 #[v, .int .i64 (N : Int)] w fun e w' => ∃ v u t, e = .returned (.tuple #[v, u, t, .int .i64 0]) ∧ NetO w' w.heap.size v (calmX (noCut x) N) ∧ Own w' w.heap.size 33 u (calmL (noCut x) N) ∧ Own w' w.heap.size 86 t (calmT (noCut x) N) ∧ Below w.heap.size w w' := by
  obtain ⟨AW, cW, AC, cC, AT, cT, rfl, hW, hC, hT⟩ := hV
  have hck := (ok_iff x).2 hx
  have h1 := hx.way
  have h2 := hx.cuts256
  have h3 := hx.tms
  have hnow := hx.t0
  have HCH : Hid (∀ W, Below w.heap.size w W → Calls Try.prog 45 #[.agg #[.int .i64 x.nodes, .int .i64 x.now, .int .i64 x.next, .slice AW x.way.length cW, .slice AC x.cuts.length cC, .slice AT x.timers.length cT]] W fun e w' => ∃ g, e = .returned (.tuple #[.pointer (some ⟨g, 0, none⟩), .int .i64 0]) ∧ St w' W.heap.size g x ∧ Below W.heap.size W w') := fun W hb => changing_ok x AW AC AT cW cC cT W (by omega) (by omega) (by omega) (hW.below hb) (hC.below hb) (hT.below hb) hck
  have HOK := Lib.hid hx
  have d1 : decide ((N : Int) < 0) = false := decide_eq_false (by omega)
  have d2 : decide ((1000 : Int) < (N : Int)) = false := decide_eq_false (by omega)
  have hwr : IntKind.i64.wrap (x.now + (N : Int)) = x.now + (N : Int) := IntWalk.i64_in _ (by omega)
  have d3 : decide (1099511627776 < x.now + (N : Int)) = false := decide_eq_false (by omega)
  clear hW hC hT hck hx
  refine callsIn_of_wp_marks Try.func40 rfl trivial ?_ rfl
  simp only [Try.ntmps40, List.size_toArray, List.length_cons, List.length_nil, Nat.reduceAdd, Nat.reduceSub, Array.replicate_succ, Array.replicate_zero, List.push_toArray, List.append_toArray, List.nil_append, List.cons_append]
  gi_wp2
  refine wpIn_scopeW ?_
  gi_wp2_with fail
  obtain ⟨w2, hw2⟩ : ∃ w2, w2 = (w.alloc (.cells #[.int .i64 x.nodes, .int .i64 x.now, .int .i64 x.next, .slice AW x.way.length cW, .slice AC x.cuts.length cC, .slice AT x.timers.length cT] 26)).alloc (.cells #[.int .i64 0, .int .i64 0, .int .i64 0, .slice none 0 0, .slice none 0 0, .slice none 0 0] 26) := ⟨_, rfl⟩
  rw [← hw2]
  have HB2 : Hid (Below w.heap.size w w2) := by rw [hw2]; exact below_alloc (below_alloc (Below.refl _ _) _) _
  have hs2 : w2.heap.size = w.heap.size + 2 := by rw [hw2]; simp
  have HZ2 : Hid (w2.heap[w.heap.size + 1]? = some (.cells #[.int .i64 0, .int .i64 0, .int .i64 0, .slice none 0 0, .slice none 0 0, .slice none 0 0] 26 (0, 0))) := by rw [hw2]; exact bl_newZ (by simp)
  clear hw2
  refine ⟨trivial, ?_⟩
  refine (callsIn_wide.2 (HCH.out _ HB2.out)).mono ?_
  rintro e w3 ⟨g, rfl, hS3, hb3⟩
  obtain ⟨AW3, cW3, AC3, cC3, AT3, cT3, hg3, hB3, oW3, oC3, oT3⟩ := hS3.open
  have HG3 := Lib.hid hg3
  obtain ⟨⟨k0, k1, k2, k3, k4, k5⟩, f0, f1, f2, f3, f4, f5⟩ := blc6 hg3
  have hlg := bl_lt hg3
  have HW3 := Lib.hid oW3
  have HT3 := Lib.hid oT3
  have HB3 := Lib.hid hb3
  clear hg3 oW3 oC3 oT3 hS3 hb3
  gi_wp2
  refine wpIn_label ?_
  gi_wp2
  have HS0 : Hid (CalmS w2 g (noCut x) [] [] (.slice none 0 0) (.slice none 0 0) [] (w3.setCell ⟨g, 4, none⟩ (.slice none 0 0))) := by
    have hne := HW3.out.ne HG3.out (by decide)
    have hne' := HT3.out.ne HG3.out (by decide)
    refine ⟨⟨_, _, _, by simpa [noCut] using bl_set HG3.out 4 (.slice none 0 0), hB3, HW3.out.setCell hne _, Own.nil _ _ _, HT3.out.setCell hne' _⟩, Own.nil _ _ _, Own.nil _ _ _, fun b e => by simp [Value.ownBlock] at e, fun b e => by simp [Value.ownBlock] at e, HB3.out.setCell (p := ⟨g, 4, none⟩) hB3 _, List.nodup_nil, fun D hD => by simp at hD⟩
  have HOK' : Hid (Ok (noCut x)) := nocut_ok HOK.out
  have hlim' : (noCut x).now + (N : Int) ≤ 1099511627776 := hlim
  clear HG3 HW3 HT3 HB3 k0 k1 k2 k3 k4 k5 f0 f1 f2 f3 f4 f5 hlg HCH d1 d2 d3 hwr hB3
  refine wpIn_loop (calmO w2 g (noCut x) N (.pointer (some ⟨w.heap.size + 1, 0, none⟩))) calmMo ⟨0, _, [], _, _, stD_of 84 (by rfl), Nat.zero_le _, rfl, rfl, rfl, rfl, rfl, HS0⟩ ?_
  clear HS0
  rintro a W ⟨k, f, Ds, u10, u11, rfl, hk, h4, h8, h10, h11, h12, HS⟩
  by_cases hlt : k < N
  · exact calm_tick w2 g (noCut x) N k _ u10 u11 f Ds W _ h4 h8 h10 h11 h12 hlt hN HOK' rfl hlim' HS
  · refine calm_last w2 g (noCut x) N k _ u10 u11 f Ds W _ h4 h8 h10 h11 h12 (by omega) hN HOK' rfl hlim' HS ?_
    clear HS h4 h8 h10 h11 h12
    intro l E V hl e4 e8 e10 e11 hCS
    have hca := (calm_at HOK'.out N hlim').1
    obtain ⟨y, hy⟩ : ∃ z, z = calmX (noCut x) N := ⟨_, rfl⟩
    obtain ⟨L, hL⟩ : ∃ z, z = calmL (noCut x) N := ⟨_, rfl⟩
    obtain ⟨T, hT⟩ : ∃ z, z = calmT (noCut x) N := ⟨_, rfl⟩
    rw [← hy, ← hL, ← hT] at hCS
    rw [← hy] at hca
    have HY := Lib.hid hy
    have HL := Lib.hid hL
    have HT := Lib.hid hT
    have HCS := Lib.hid hCS
    obtain ⟨AWy, cWy, ACy, cCy, ATy, cTy, hgy, -, oWy, oCy, oTy⟩ := hCS.st.open
    obtain ⟨⟨k0, k1, k2, k3, k4, k5⟩, -⟩ := blc6 hgy
    have hlg := bl_lt hgy
    have HNO : Hid (NetO V w2.heap.size (.agg #[.int .i64 y.nodes, .int .i64 y.now, .int .i64 y.next, .slice AWy y.way.length cWy, .slice ACy y.cuts.length cCy, .slice ATy y.timers.length cTy]) y) := ⟨AWy, cWy, ACy, cCy, ATy, cTy, rfl, oWy, oCy, oTy⟩
    have hz := bl_below HZ2.out (hCS.bw.mono (by omega))
    have hlz := bl_lt hz
    have HZ := Lib.hid hz
    obtain ⟨⟨z0, z1, z2, z3, z4, z5⟩, y0, y1, y2, y3, y4, y5⟩ := blc6 hz
    have hst := stD_of (ds := Marks E) 84 hl
    rw [hst, stD_all, e4, e8, e10, e11]
    clear hst e4 e8 e10 e11 hl hy hL hT hgy oWy oCy oTy hz hCS
    gi_wp2
    show LeavesInM Fence.wide 9 Try.prog Try.f40 _ _ (Marks E) .returning _
    refine leaves_marks (m := w2.heap.size) (C := fun V' => V'.heap[w.heap.size + 1]? = some (.cells #[.int .i64 y.nodes, .int .i64 y.now, .int .i64 y.next, .slice AWy y.way.length cWy, .slice ACy y.cuts.length cCy, .slice ATy y.timers.length cTy] 26 (0, 0)) ∧ NetO V' w2.heap.size (.agg #[.int .i64 y.nodes, .int .i64 y.now, .int .i64 y.next, .slice AWy y.way.length cWy, .slice ACy y.cuts.length cCy, .slice ATy y.timers.length cTy]) y ∧ Own V' w2.heap.size 33 u10 L ∧ Own V' w2.heap.size 86 u11 T ∧ Below w.heap.size w V')
      (v := .tuple #[.agg #[.int .i64 y.nodes, .int .i64 y.now, .int .i64 y.next, .slice AWy y.way.length cWy, .slice ACy y.cuts.length cCy, .slice ATy y.timers.length cTy], u10, u11, .int .i64 0]) ?hC ?hend E _ ?start HCS.out.nd ?ms
    case hC =>
      rintro V' D ⟨c1, c2, c3, c4, c5⟩ hD hm
      have hr : ∀ r, some D = some r → ∃ o : Obj, V'.heap[r]? = some o ∧ o.isCells = false := fun r e => by cases e; exact ⟨_, hD, rfl⟩
      have hg := grownBy_putObj' V' D (.deferred none)
      exact ⟨kept_cells c1 hg hr, kept_netO c2 hg hr, kept_own c3 hg hr, kept_own c4 hg hr, c5.trans (belowK_b (w := w2) (by omega) V' D _ _ hm hD rfl rfl)⟩
    case hend =>
      rintro V' ⟨c1, c2, c3, c4, c5⟩
      refine ⟨res_cttt Try.results40 (w.heap.size + 1) 26 #[.int .i64 y.nodes, .int .i64 y.now, .int .i64 y.next, .slice AWy y.way.length cWy, .slice ACy y.cuts.length cCy, .slice ATy y.timers.length cTy] _ rfl c1 Try.underlying26 rfl sizeNet rfl rfl rfl, _, _, _, rfl, ?_, ?_, ?_, c5⟩
      · rw [← HY.out]; exact c2.weaken (by omega)
      · rw [← HL.out]; exact c3.weaken (by omega)
      · rw [← HT.out]; exact c4.weaken (by omega)
    case start =>
      have hlt2 : w.heap.size + 1 < w2.heap.size := by omega
      refine ⟨bl_all6 HZ.out _ _ _ _ _ _, HNO.out.far6 hlt2 _ _ _ _ _ _, ?_, ?_, below_set6 (HB2.out.trans (HCS.out.bw.mono (by omega))) (by omega) _ _ _ _ _ _⟩
      · repeat (refine Own.far ?_ (by exact hlt2) _)
        exact HCS.out.ol
      · repeat (refine Own.far ?_ (by exact hlt2) _)
        exact HCS.out.ot
    case ms =>
      intro D hD
      obtain ⟨m1, m2⟩ := HCS.out.ms D hD
      exact ⟨m1, bl_far6 m2 (by omega) _ _ _ _ _ _⟩
theorem Calm_good (x : Nt) (N : Nat) (v : Value) (w : World) (hV : NetV w v x) (hx : Ok x) (hN : N ≤ 1000) (hlim : x.now + N ≤ 1099511627776) :
    Calls Try.prog 40 #[v, .int .i64 (N : Int)] w fun e w' => ∃ v u t, e = .returned (.tuple #[v, u, t, .int .i64 0]) ∧ NetO w' w.heap.size v (calmX (noCut x) N) ∧ Own w' w.heap.size 33 u (calmL (noCut x) N) ∧ Own w' w.heap.size 86 t (calmT (noCut x) N) ∧ Below w.heap.size w w' :=
  callsIn_wide.1 (calm_in x N v w hV hx hN hlim)
end Go.Proofs.Ythlbmcfliejdiaa
end

section
set_option linter.unusedVariables false
set_option linter.unusedSimpArgs false
namespace Go.Proofs.Ythlbmcfliejdiaa
open Go.RowKit

def calmE (x : Nt) (n : Int) : Int := if checkB x = false then 2 else if n < 0 ∨ 1000 < n then 1 else if 1099511627776 < x.now + n then 3 else 0
def calmRX (x : Nt) (n : Int) : Nt := if calmE x n = 0 then calmX (noCut x) n.toNat else zNt
def calmRL (x : Nt) (n : Int) : List Lt := if calmE x n = 0 then calmL (noCut x) n.toNat else []
def calmRT (x : Nt) (n : Int) : List Tm := if calmE x n = 0 then calmT (noCut x) n.toNat else []
def clmQ (x : Nt) (n : Int) (w : World) (e : Ending) (w' : World) : Prop := ∃ v u t, e = .returned (.tuple #[v, u, t, .int .i64 (calmE x n)]) ∧ NetO w' w.heap.size v (calmRX x n) ∧ Own w' w.heap.size 33 u (calmRL x n) ∧ Own w' w.heap.size 86 t (calmRT x n) ∧ Below w.heap.size w w'
theorem clmQ_err {x : Nt} {n k : Int} (hk : calmE x n = k) (h0 : k ≠ 0) {w : World} {e : Ending} {w' : World} (he : e = .returned (.tuple #[zNetV, .slice none 0 0, .slice none 0 0, .int .i64 k])) (hb : Below w.heap.size w w') : clmQ x n w e w' := by
  subst hk
  refine ⟨_, _, _, he, ?_, ?_, ?_, hb⟩
  · unfold calmRX; rw [if_neg h0]; exact zNetV_own _ _
  · unfold calmRL; rw [if_neg h0]; exact Own.nil _ _ _
  · unfold calmRT; rw [if_neg h0]; exact Own.nil _ _ _

set_option maxHeartbeats 1000000 in
set_option maxRecDepth 100000 in
theorem Calm_form (x : Nt) (n : Int) (v : Value) (w : World) (hlw : x.way.length ≤ 10000000) (hlc : x.cuts.length ≤ 10000000) (hlt : x.timers.length ≤ 10000000) (hV : NetV w v x) (hx : checkB x = false) :
    Calls Try.prog 40 #[v, .int .i64 n] w fun e w' => e = .returned (.tuple #[zNetV, .slice none 0 0, .slice none 0 0, .int .i64 2]) ∧ Below w.heap.size w w' := by
  obtain ⟨AW, cW, AC, cC, AT, cT, rfl, hW, hC, hT⟩ := hV
  have HX := Lib.hid hx
  clear hx
  go_enter Try.func40, Try.ntmps40
  go_wp2
  refine wp_scope_straight ?_
  go_wp2_with fail
  obtain ⟨w2, hw2⟩ : ∃ w2, w2 = (w.alloc (.cells #[.int .i64 x.nodes, .int .i64 x.now, .int .i64 x.next, .slice AW x.way.length cW, .slice AC x.cuts.length cC, .slice AT x.timers.length cT] 26)).alloc (.cells #[.int .i64 0, .int .i64 0, .int .i64 0, .slice none 0 0, .slice none 0 0, .slice none 0 0] 26) := ⟨_, rfl⟩
  rw [← hw2]
  have HB2 : Hid (Below w.heap.size w w2) := by rw [hw2]; exact below_alloc (below_alloc (Below.refl _ _) _) _
  have HZ2 : Hid (w2.heap[w.heap.size + 1]? = some (.cells #[.int .i64 0, .int .i64 0, .int .i64 0, .slice none 0 0, .slice none 0 0, .slice none 0 0] 26 (0, 0))) := by rw [hw2]; exact bl_newZ (by simp)
  clear hw2
  refine calls_below (changing_bad x AW AC AT cW cC cT _ (by omega) (by omega) (by omega) (hW.below HB2.out) (hC.below HB2.out) (hT.below HB2.out) HX.out) ?_
  intro w3 hb3
  have hz := bl_below HZ2.out hb3
  have hlz := bl_lt hz
  obtain ⟨⟨z0, z1, z2, z3, z4, z5⟩, y0, y1, y2, y3, y4, y5⟩ := blc6 hz
  have hbb := below_trans HB2.out hb3
  have HZ := Lib.hid hz
  have HBB := Lib.hid hbb
  clear hz hbb hW hC hT hb3
  go_wp2
  simp only [Exit.noGoto_ret]
  refine bodyPost_ret (res_cttt Try.results40 (w.heap.size + 1) 26 #[.int .i64 0, .int .i64 0, .int .i64 0, .slice none 0 0, .slice none 0 0, .slice none 0 0] _ rfl (bl_all6 HZ.out _ _ _ _ _ _) Try.underlying26 rfl sizeNet rfl rfl rfl) rfl ⟨rfl, below_set6 HBB.out (by omega) _ _ _ _ _ _⟩

set_option maxHeartbeats 1000000 in
set_option maxRecDepth 100000 in
theorem Calm_no (x : Nt) (n k : Int) (v : Value) (w : World) (hV : NetV w v x) (hx : Ok x) (hk : n < 0 ∧ k = 1 ∨ ¬ n < 0 ∧ 1000 < n ∧ k = 1 ∨ ¬ n < 0 ∧ ¬ 1000 < n ∧ 1099511627776 < x.now + n ∧ k = 3) :
    Calls Try.prog 40 #[v, .int .i64 n] w fun e w' => e = .returned (.tuple #[zNetV, .slice none 0 0, .slice none 0 0, .int .i64 k]) ∧ Below w.heap.size w w' := by
  obtain ⟨AW, cW, AC, cC, AT, cT, rfl, hW, hC, hT⟩ := hV
  have hck := (ok_iff x).2 hx
  have h1 := hx.way
  have h2 := hx.cuts256
  have h3 := hx.tms
  have hnow := hx.t0
  have hnow1 := hx.t1
  have HCH : Hid (∀ W, Below w.heap.size w W → Calls Try.prog 45 #[.agg #[.int .i64 x.nodes, .int .i64 x.now, .int .i64 x.next, .slice AW x.way.length cW, .slice AC x.cuts.length cC, .slice AT x.timers.length cT]] W fun e w' => ∃ g, e = .returned (.tuple #[.pointer (some ⟨g, 0, none⟩), .int .i64 0]) ∧ St w' W.heap.size g x ∧ Below W.heap.size W w') := fun W hb => changing_ok x AW AC AT cW cC cT W (by omega) (by omega) (by omega) (hW.below hb) (hC.below hb) (hT.below hb) hck
  clear hW hC hT hck hx
  go_enter Try.func40, Try.ntmps40
  go_wp2
  refine wp_scope_straight ?_
  go_wp2_with fail
  obtain ⟨w2, hw2⟩ : ∃ w2, w2 = (w.alloc (.cells #[.int .i64 x.nodes, .int .i64 x.now, .int .i64 x.next, .slice AW x.way.length cW, .slice AC x.cuts.length cC, .slice AT x.timers.length cT] 26)).alloc (.cells #[.int .i64 0, .int .i64 0, .int .i64 0, .slice none 0 0, .slice none 0 0, .slice none 0 0] 26) := ⟨_, rfl⟩
  rw [← hw2]
  have HB2 : Hid (Below w.heap.size w w2) := by rw [hw2]; exact below_alloc (below_alloc (Below.refl _ _) _) _
  have HZ2 : Hid (w2.heap[w.heap.size + 1]? = some (.cells #[.int .i64 0, .int .i64 0, .int .i64 0, .slice none 0 0, .slice none 0 0, .slice none 0 0] 26 (0, 0))) := by rw [hw2]; exact bl_newZ (by simp)
  have hs2 : w2.heap.size = w.heap.size + 2 := by rw [hw2]; simp
  clear hw2
  refine (HCH.out _ HB2.out).mono ?_
  rintro e w3 ⟨g, rfl, hS3, hb3⟩
  obtain ⟨AW3, cW3, AC3, cC3, AT3, cT3, hg3, hB3, oW3, oC3, oT3⟩ := hS3.open
  obtain ⟨⟨k0, k1, k2, k3, k4, k5⟩, f0, f1, f2, f3, f4, f5⟩ := blc6 hg3
  have hlg := bl_lt hg3
  have hz := bl_below HZ2.out hb3
  have hlz := bl_lt hz
  obtain ⟨⟨z0, z1, z2, z3, z4, z5⟩, y0, y1, y2, y3, y4, y5⟩ := blc6 hz
  have hbb := below_trans HB2.out hb3
  have HZ := Lib.hid hz
  have HBB := Lib.hid hbb
  clear hz hbb hb3 oW3 oC3 oT3 hS3 hg3 f0 f1 f2 f3 f4 f5 hB3
  rcases hk with ⟨c1, rfl⟩ | ⟨c1, c2, rfl⟩ | ⟨c1, c2, c3, rfl⟩
  · have d1 : decide (n < 0) = true := decide_eq_true c1
    clear c1
    go_wp2
    simp only [Exit.noGoto_ret]
    refine bodyPost_ret (res_cttt Try.results40 (w.heap.size + 1) 26 #[.int .i64 0, .int .i64 0, .int .i64 0, .slice none 0 0, .slice none 0 0, .slice none 0 0] _ rfl (bl_all6 HZ.out _ _ _ _ _ _) Try.underlying26 rfl sizeNet rfl rfl rfl) rfl ⟨rfl, below_set6 HBB.out (by omega) _ _ _ _ _ _⟩
  · have d1 : decide (n < 0) = false := decide_eq_false (by omega)
    have d2 : decide (1000 < n) = true := decide_eq_true c2
    clear c1 c2
    go_wp2
    simp only [Exit.noGoto_ret]
    refine bodyPost_ret (res_cttt Try.results40 (w.heap.size + 1) 26 #[.int .i64 0, .int .i64 0, .int .i64 0, .slice none 0 0, .slice none 0 0, .slice none 0 0] _ rfl (bl_all6 HZ.out _ _ _ _ _ _) Try.underlying26 rfl sizeNet rfl rfl rfl) rfl ⟨rfl, below_set6 HBB.out (by omega) _ _ _ _ _ _⟩
  · have d1 : decide (n < 0) = false := decide_eq_false (by omega)
    have d2 : decide (1000 < n) = false := decide_eq_false (by omega)
    have hwr : IntKind.i64.wrap (x.now + n) = x.now + n := IntWalk.i64_in _ (by omega)
    have d3 : decide (1099511627776 < x.now + n) = true := decide_eq_true c3
    clear c1 c2 c3
    go_wp2
    simp only [Exit.noGoto_ret]
    refine bodyPost_ret (res_cttt Try.results40 (w.heap.size + 1) 26 #[.int .i64 0, .int .i64 0, .int .i64 0, .slice none 0 0, .slice none 0 0, .slice none 0 0] _ rfl (bl_all6 HZ.out _ _ _ _ _ _) Try.underlying26 rfl sizeNet rfl rfl rfl) rfl ⟨rfl, below_set6 HBB.out (by omega) _ _ _ _ _ _⟩
theorem Calm_any (x : Nt) (n : Int) (v : Value) (w : World) (hlw : x.way.length ≤ 10000000) (hlc : x.cuts.length ≤ 10000000) (hlt : x.timers.length ≤ 10000000) (hV : NetV w v x) : Calls Try.prog 40 #[v, .int .i64 n] w (clmQ x n w) := by
  cases hc : checkB x
  · exact (Calm_form x n v w hlw hlc hlt hV hc).mono fun e w' h => clmQ_err (by unfold calmE; rw [if_pos hc]) (by decide) h.1 h.2
  · have hx := (ok_iff x).1 hc
    have hnc : ¬ checkB x = false := by rw [hc]; decide
    by_cases c1 : n < 0
    · exact (Calm_no x n 1 v w hV hx (.inl ⟨c1, rfl⟩)).mono fun e w' h => clmQ_err (by unfold calmE; rw [if_neg hnc, if_pos (.inl c1)]) (by decide) h.1 h.2
    · by_cases c2 : 1000 < n
      · exact (Calm_no x n 1 v w hV hx (.inr (.inl ⟨c1, c2, rfl⟩))).mono fun e w' h => clmQ_err (by unfold calmE; rw [if_neg hnc, if_pos (.inr c2)]) (by decide) h.1 h.2
      · by_cases c3 : 1099511627776 < x.now + n
        · exact (Calm_no x n 3 v w hV hx (.inr (.inr ⟨c1, c2, c3, rfl⟩))).mono fun e w' h => clmQ_err (by unfold calmE; rw [if_neg hnc, if_neg (by omega), if_pos c3]) (by decide) h.1 h.2
        · obtain ⟨N, rfl⟩ := Int.eq_ofNat_of_zero_le (show 0 ≤ n by omega)
          have h0 : calmE x (N : Int) = 0 := by unfold calmE; rw [if_neg hnc, if_neg (by omega), if_neg c3]
          refine (Calm_good x N v w hV hx (by omega) (by omega)).mono fun e w' h => ?_
          obtain ⟨v, u, t, he, h1, h2, h3, h4⟩ := h
          refine ⟨v, u, t, by rw [h0]; exact he, ?_, ?_, ?_, h4⟩
          · unfold calmRX; rw [if_pos h0]; exact h1
          · unfold calmRL; rw [if_pos h0]; exact h2
          · unfold calmRT; rw [if_pos h0]; exact h3
end Go.Proofs.Ythlbmcfliejdiaa
end

section
set_option linter.unusedVariables false
set_option linter.unusedSimpArgs false
namespace Go.Proofs.Ythlbmcfliejdiaa
open Go.RowKit

/-- What was seen, element by element. -/
theorem Rd.seen {w : World} {A : Option Addr} {rs : List SnR} {xs : List Sn} (h : Rd w A rs) (hs : Sns w rs xs) (i : Nat) (hi : i < rs.length) :
    ∃ b off s ta tc, A = some ⟨b, off, none⟩ ∧ Hid (xs[i]? = some s) ∧ Hid (Rd w ta s.ts) ∧ w.cell? ⟨b, off + i * 13, none⟩ = some (.int .i64 s.a.k) ∧ w.cell? ⟨b, off + i * 13 + 1, none⟩ = some (.int .i64 s.a.a) ∧ w.cell? ⟨b, off + i * 13 + 2, none⟩ = some (.int .i64 s.a.b) ∧ w.cell? ⟨b, off + i * 13 + 3, none⟩ = some (.int .i64 s.a.n) ∧ w.cell? ⟨b, off + i * 13 + 4, none⟩ = some (.string s.a.data) ∧
      w.cell? ⟨b, off + i * 13 + 5, none⟩ = some (.int .i64 s.e) ∧ w.cell? ⟨b, off + i * 13 + 6, none⟩ = some (.int .i64 s.now) ∧ w.cell? ⟨b, off + i * 13 + 7, none⟩ = some (.int .i64 s.l.id) ∧ w.cell? ⟨b, off + i * 13 + 8, none⟩ = some (.int .i64 s.l.fr) ∧ w.cell? ⟨b, off + i * 13 + 9, none⟩ = some (.int .i64 s.l.to) ∧ w.cell? ⟨b, off + i * 13 + 10, none⟩ = some (.int .i64 s.l.rd) ∧ w.cell? ⟨b, off + i * 13 + 11, none⟩ = some (.string s.l.data) ∧ w.cell? ⟨b, off + i * 13 + 12, none⟩ = some (.slice ta s.ts.length tc) := by
  obtain ⟨b, off, r, e, hx, hc⟩ := h.any i hi
  have hi2 : i < xs.length := by rw [← hs.1]; exact hi
  obtain ⟨h1, h2, h3, h4, h5, h6⟩ := hs.2 i r xs[i] hx.out (List.getElem?_eq_getElem hi2)
  obtain ⟨ra, re, rn, rl, rta, rtn, rtc⟩ := r
  simp only at h1 h2 h3 h4 h5 h6
  subst h1 h2 h3 h4 h5
  exact ⟨b, off, xs[i], rta, rtc, e, List.getElem?_eq_getElem hi2, h6, hc 0 _ rfl, hc 1 _ rfl, hc 2 _ rfl, hc 3 _ rfl, hc 4 _ rfl, hc 5 _ rfl, hc 6 _ rfl, hc 7 _ rfl, hc 8 _ rfl, hc 9 _ rfl, hc 10 _ rfl, hc 11 _ rfl, hc 12 _ rfl⟩
theorem seenS_get : ∀ (x : Nt) (xs : List Ac) (k : Nat) (d : Ac), xs[k]? = some d → (playS x xs)[k]? = some (doSR (playX x (xs.take k)) d)
  | x, [], k, d, h => by simp at h
  | x, b :: l, 0, d, h => by
    have : b = d := by simpa using h
    subst this; rfl
  | x, b :: l, k + 1, d, h => by
    have ih := seenS_get (doXR x b) l k d (by simpa using h)
    simpa [playS, playX] using ih
theorem seenX_snoc {x : Nt} {xs : List Ac} {k : Nat} {d : Ac} (h : xs[k]? = some d) : playX x (xs.take (k + 1)) = doXR (playX x (xs.take k)) d := by
  rw [List.take_add_one, h]; exact playX_snoc _ _ _
theorem seen_is {x : Nt} {xs : List Ac} {k : Nat} {s : Sn} (hx : Ok x) (h : (playS x xs)[k]? = some s) : ∃ d, xs[k]? = some d ∧ s.a = d ∧ s = doS (playX x (xs.take k)) d := by
  have hk := (List.getElem?_eq_some_iff.1 h).1
  rw [playS_length] at hk
  have hd : xs[k]? = some xs[k] := List.getElem?_eq_getElem hk
  rw [seenS_get x xs k _ hd] at h
  have hy := play_keeps (xs.take k) hx
  rw [doSR_ok hy] at h
  have hs := Option.some.inj h
  refine ⟨_, hd, ?_, hs.symm⟩
  rw [← hs]; unfold doS; split <;> rfl
theorem Own.rows {α : Type} [Enc α] {w : World} {B : Nat} {e : TypeId} {v : Value} {xs : List α} (h : Own w B e v xs) (hx : 0 < xs.length) : ∃ g cap, v = .slice (some ⟨g, 0, none⟩) xs.length cap := by
  rcases h.2 with ⟨_, h0⟩ | ⟨g, cap, cur, rfl, _⟩
  · omega
  · exact ⟨g, cap, rfl⟩
end Go.Proofs.Ythlbmcfliejdiaa
end

section
set_option linter.unusedVariables false
set_option linter.unusedSimpArgs false
namespace Go.Proofs.Ythlbmcfliejdiaa
open Go.RowKit
attribute [local go_sem high] eqATm eqALt eqAAc eqALk

theorem take_snocT {xs : List Tm} {k : Nat} {x : Tm} (h : Hid (xs[k]? = some x)) : xs.take (k + 1) = xs.take k ++ [x] := by
  rw [List.take_add_one, h.out]; rfl
set_option maxHeartbeats 4000000 in
set_option maxRecDepth 100000 in
theorem Ldrop_any (A : Option Addr) (c : Nat) (xs : List Tm) (nd tg : Int) (w : World) (hR : Rd w A xs) (hl : xs.length ≤ 10000000) :
    Calls Try.prog 41 #[.slice A xs.length c, .int .i64 nd, .int .i64 tg] w fun e w' => ∃ u, e = .returned u ∧ Own w' w.heap.size 86 u (othersF nd tg xs) ∧ Below w.heap.size w w' := by
  have HR := Lib.hid hR
  clear hR
  go_enter Try.func41, Try.ntmps41
  go_wp2
  go_loopw [7, 8] (fun u i wr => ∃ k : Nat, k ≤ xs.length ∧ i = .int .i64 k ∧ Hid (Own wr w.heap.size 86 u (othersF nd tg (xs.take k))) ∧ Hid (Below w.heap.size w wr)) (fun _ i _ => xs.length - (intOf i).toNat)
  case atStart => exact ⟨0, Nat.zero_le _, rfl, (Own.nil _ _ _ : Own w w.heap.size 86 (.slice none 0 0) ([] : List Tm)), Below.refl _ _⟩
  case round =>
    obtain ⟨k, hk, rfl, hO, hB⟩ := hrel
    by_cases hlk : k < xs.length
    · obtain ⟨bb, off, d, rfl, hx, e0, e1, e2⟩ := (HR.out.below hB.out).tm k hlk
      have hbt : bb < wr.heap.size := World.block_lt_of_cell? wr _ e0
      have hts := Lib.hid (take_snocT hx)
      have hlen : Hid ((othersF nd tg (xs.take k)).length ≤ k) := Nat.le_trans (List.length_filter_le _ _) (List.length_take_le _ _)
      cases q1 : (d.node != nd)
      · cases q2 : (d.tag != tg)
        · have hlc : Hid (othersF nd tg (xs.take (k + 1)) = othersF nd tg (xs.take k)) := by
            show _ = _
            rw [hts.out, othersF, List.filter_append]
            simp [isTm, bne_eq_false_iff_eq.1 q1, bne_eq_false_iff_eq.1 q2, othersF]
          go_wp2
          go_roundw
          case rel => exact ⟨k + 1, by omega, by go_num, by show Own _ _ _ _ _; rw [hlc.out]; exact hO.out, hB.out⟩
          case measure => simp [intOf]; omega
        · have hlc : Hid (othersF nd tg (xs.take (k + 1)) = othersF nd tg (xs.take k) ++ [d]) := by
            show _ = _
            rw [hts.out, othersF, List.filter_append]
            simp [isTm, bne_iff_ne.1 q2, othersF]
          go_upto_region 6 with fail
          go_wp2_with (at_builtin; refine hid_stop ?_)
          change wpList _ _ _ _ _ (wr.alloc _)
          refine wpList_app _ w.heap.size rfl (.tmp 31) (.tmp 36) 24 86 _ 24 rfl Try.underlying24 infoT rfl (by decide) (by decide) u7 (othersF nd tg (xs.take k)) [d] (some ⟨wr.heap.size, 0, none⟩) 1 rfl rfl (hO.out.alloc _) ?hR ?hB ?hL ?_
          case hR => exact Rd.new wr 86 d #[.int .i64 d.t, .int .i64 d.node, .int .i64 d.tag] rfl
          case hB => have h := (hB.out).size; simp; omega
          case hL => have h := hlen.out; simp; omega
          intro v1 w8 ho hg hat
          have hgq : wr.grownBy w8 (u7 : Value).ownBlock := grown_of_alloc hg
          have hF1 : Hid (Own w8 w.heap.size 86 v1 (othersF nd tg (xs.take (k + 1)))) := by
            show Own _ _ _ _ _
            rw [hlc.out]
            exact ho
          have hF2 : Hid (Below w.heap.size w w8) := hB.out.grown hgq hB.out.size (fun k hk => (hO.out.lt k hk).1)
          clear ho hg hgq hat
          go_wp2
          go_roundw
          case rel => exact ⟨k + 1, by omega, by go_num, hF1.out, hF2.out⟩
          case measure => simp [intOf]; omega
      · have hlc : Hid (othersF nd tg (xs.take (k + 1)) = othersF nd tg (xs.take k) ++ [d]) := by
          show _ = _
          rw [hts.out, othersF, List.filter_append]
          simp [isTm, bne_iff_ne.1 q1, othersF]
        go_upto_region 6 with fail
        go_wp2_with (at_builtin; refine hid_stop ?_)
        change wpList _ _ _ _ _ (wr.alloc _)
        refine wpList_app _ w.heap.size rfl (.tmp 31) (.tmp 36) 24 86 _ 24 rfl Try.underlying24 infoT rfl (by decide) (by decide) u7 (othersF nd tg (xs.take k)) [d] (some ⟨wr.heap.size, 0, none⟩) 1 rfl rfl (hO.out.alloc _) ?hR ?hB ?hL ?_
        case hR => exact Rd.new wr 86 d #[.int .i64 d.t, .int .i64 d.node, .int .i64 d.tag] rfl
        case hB => have h := (hB.out).size; simp; omega
        case hL => have h := hlen.out; simp; omega
        intro v1 w8 ho hg hat
        have hgq : wr.grownBy w8 (u7 : Value).ownBlock := grown_of_alloc hg
        have hF1 : Hid (Own w8 w.heap.size 86 v1 (othersF nd tg (xs.take (k + 1)))) := by
          show Own _ _ _ _ _
          rw [hlc.out]
          exact ho
        have hF2 : Hid (Below w.heap.size w w8) := hB.out.grown hgq hB.out.size (fun k hk => (hO.out.lt k hk).1)
        clear ho hg hgq hat
        go_wp2
        go_roundw
        case rel => exact ⟨k + 1, by omega, by go_num, hF1.out, hF2.out⟩
        case measure => simp [intOf]; omega
    · have hkl : k = xs.length := by omega
      have HKL := Lib.hid hkl
      clear hkl
      go_wp2
      go_ret
      refine ⟨_, rfl, ?_, hB.out⟩
      have h := hO.out
      rw [HKL.out, List.take_length] at h
      exact h

/-- The loops' bodies of a code, those that stand in no other loop. -/
def loopsF : Code → List Code
  | .loop c => [c]
  | .seq a b => loopsF a ++ loopsF b
  | .block _ c => loopsF c
  | .scope c => loopsF c
  | .cond _ a b => loopsF a ++ loopsF b
  | _ => []
noncomputable def firesOut : Code := ((Try.f11.body.bind fun c => (loopsF c)[0]?).getD .skip)
noncomputable def firesIn1 : Code := ((loopsF firesOut)[0]?).getD .skip
noncomputable def firesIn2 : Code := ((loopsF firesOut)[1]?).getD .skip
set_option maxRecDepth 100000 in
theorem stf_all (f : Nat → Value) : st 228 f = ⟨#[f 0, f 1, f 2, f 3, f 4, f 5, f 6, f 7, f 8, f 9, f 10, f 11, f 12, f 13, f 14, f 15, f 16, f 17, f 18, f 19, f 20, f 21, f 22, f 23, f 24, f 25, f 26, f 27, f 28, f 29, f 30, f 31, f 32, f 33, f 34, f 35, f 36, f 37, f 38, f 39, f 40, f 41, f 42, f 43, f 44, f 45, f 46, f 47, f 48, f 49, f 50, f 51, f 52, f 53, f 54, f 55, f 56, f 57, f 58, f 59, f 60, f 61, f 62, f 63, f 64, f 65, f 66, f 67, f 68, f 69, f 70, f 71, f 72, f 73, f 74, f 75, f 76, f 77, f 78, f 79, f 80, f 81, f 82, f 83, f 84, f 85, f 86, f 87, f 88, f 89, f 90, f 91, f 92, f 93, f 94, f 95, f 96, f 97, f 98, f 99, f 100, f 101, f 102, f 103, f 104, f 105, f 106, f 107, f 108, f 109, f 110, f 111, f 112, f 113, f 114, f 115, f 116, f 117, f 118, f 119, f 120, f 121, f 122, f 123, f 124, f 125, f 126, f 127, f 128, f 129, f 130, f 131, f 132, f 133, f 134, f 135, f 136, f 137, f 138, f 139, f 140, f 141, f 142, f 143, f 144, f 145, f 146, f 147, f 148, f 149, f 150, f 151, f 152, f 153, f 154, f 155, f 156, f 157, f 158, f 159, f 160, f 161, f 162, f 163, f 164, f 165, f 166, f 167, f 168, f 169, f 170, f 171, f 172, f 173, f 174, f 175, f 176, f 177, f 178, f 179, f 180, f 181, f 182, f 183, f 184, f 185, f 186, f 187, f 188, f 189, f 190, f 191, f 192, f 193, f 194, f 195, f 196, f 197, f 198, f 199, f 200, f 201, f 202, f 203, f 204, f 205, f 206, f 207, f 208, f 209, f 210, f 211, f 212, f 213, f 214, f 215, f 216, f 217, f 218, f 219, f 220, f 221, f 222, f 223, f 224, f 225, f 226, f 227], []⟩ := by
  have h : List.range 228 = [0, 1, 2, 3, 4, 5, 6, 7, 8, 9, 10, 11, 12, 13, 14, 15, 16, 17, 18, 19, 20, 21, 22, 23, 24, 25, 26, 27, 28, 29, 30, 31, 32, 33, 34, 35, 36, 37, 38, 39, 40, 41, 42, 43, 44, 45, 46, 47, 48, 49, 50, 51, 52, 53, 54, 55, 56, 57, 58, 59, 60, 61, 62, 63, 64, 65, 66, 67, 68, 69, 70, 71, 72, 73, 74, 75, 76, 77, 78, 79, 80, 81, 82, 83, 84, 85, 86, 87, 88, 89, 90, 91, 92, 93, 94, 95, 96, 97, 98, 99, 100, 101, 102, 103, 104, 105, 106, 107, 108, 109, 110, 111, 112, 113, 114, 115, 116, 117, 118, 119, 120, 121, 122, 123, 124, 125, 126, 127, 128, 129, 130, 131, 132, 133, 134, 135, 136, 137, 138, 139, 140, 141, 142, 143, 144, 145, 146, 147, 148, 149, 150, 151, 152, 153, 154, 155, 156, 157, 158, 159, 160, 161, 162, 163, 164, 165, 166, 167, 168, 169, 170, 171, 172, 173, 174, 175, 176, 177, 178, 179, 180, 181, 182, 183, 184, 185, 186, 187, 188, 189, 190, 191, 192, 193, 194, 195, 196, 197, 198, 199, 200, 201, 202, 203, 204, 205, 206, 207, 208, 209, 210, 211, 212, 213, 214, 215, 216, 217, 218, 219, 220, 221, 222, 223, 224, 225, 226, 227] := by decide +kernel
  unfold st
  rw [h]
  rfl
def fireI (g5 : Nat) (A6 : Option Addr) (c6 : Nat) (S : List Sn) (w3 : World) (a : Act) (wr : World) : Prop :=
  ∃ f, a = st 228 f ∧ ∃ (k : Nat) (u8 : Value), k ≤ S.length ∧ f 5 = .pointer (some ⟨g5, 0, none⟩) ∧ f 6 = .slice A6 S.length c6 ∧ f 8 = u8 ∧ f 9 = .int .i64 (k : Int) ∧ Hid (Own wr w3.heap.size 86 u8 (fireN [] (S.take k))) ∧ Hid (Below w3.heap.size w3 wr)
def fireMu (n : Nat) (a : Act) (_ : World) : Nat := n - (intOf (a.tmps.getD 9 undef)).toNat
set_option maxHeartbeats 4000000 in
set_option maxRecDepth 100000 in
theorem fire_err (g5 : Nat) (A6 : Option Addr) (c6 : Nat) (S : List Sn) (rs : List SnR) (W : List Tm) (s : Sn) (w3 wr : World) (f : Nat → Value) (Q0 : Exit → Act → World → Prop) (k : Nat) (u8 : Value) (hls : S.length ≤ 300) (hlk : k < S.length)
    (HRL : Hid (Rd w3 A6 rs)) (HSS : Hid (Sns w3 rs S)) (HSK : Hid (S[k]? = some s)) (HNX : Hid (fireN [] (S.take (k + 1)) = fireS W s)) (hwl : W.length ≤ 64)
    (h5 : f 5 = .pointer (some ⟨g5, 0, none⟩)) (h6 : f 6 = .slice A6 S.length c6) (h8 : f 8 = u8) (h9 : f 9 = .int .i64 (k : Int))
    (hO : Hid (Own wr w3.heap.size 86 u8 W)) (hB : Hid (Below w3.heap.size w3 wr)) (he : s.e ≠ 0) :
    firesOut.wp Try.prog (Exit.then (fun a' w' => fireI g5 A6 c6 S w3 a' w' ∧ fireMu S.length a' w' < fireMu S.length (st 228 f) wr) Q0) (st 228 f) wr := by
  conv => arg 2; whnf
  have hmu : Hid (fireMu S.length (st 228 f) wr = S.length - k) := by
    show _ = _
    unfold fireMu
    rw [st_getD (by decide), h9]; rfl
  rw [hmu.out]
  rw [stf_all, h5, h6, h8, h9]
  clear h5 h6 h8 h9
  obtain ⟨bb, off, s', ta, tc, hAeq, hs', hts, e0, e1, e2, e3, e4, e5, e6, e7, e8, e9, e10, e11, e12⟩ := (HRL.out.below hB.out).seen (HSS.out.below hB.out) k (by rw [HSS.out.1]; exact hlk)
  subst hAeq
  obtain rfl : s = s' := Option.some.inj (HSK.out.symm.trans hs'.out)
  have hbt : bb < wr.heap.size := World.block_lt_of_cell? wr _ e0
  obtain ⟨⟨sk, sa, sb, sn, sd⟩, se, snow, sl, sts⟩ := s
  simp only at e0 e1 e2 e3 e4 e5 e6 e7 e8 e9 e10 e11 e12
  clear hs' e7 e8 e9 e10 e11
  have q1 : (se != 0) = true := bne_iff_ne.2 he
  have hnx : Hid (fireN [] (S.take (k + 1)) = W) := HNX.out.trans (if_pos he)
  clear he HNX
  go_upto_region 11 with fail
  obtain ⟨w7, hw7⟩ : ∃ w7, w7 = wr.alloc (.cells #[.int .i64 sk, .int .i64 sa, .int .i64 sb, .int .i64 sn, .string sd] 53) := ⟨_, rfl⟩
  have hb7 : Below wr.heap.size wr w7 := by rw [hw7]; exact below_alloc (Below.refl _ _) _
  have hm7 : w7.heap[wr.heap.size]? = some (.cells #[.int .i64 sk, .int .i64 sa, .int .i64 sb, .int .i64 sn, .string sd] 53 (0, 0)) := by rw [hw7]; exact bl_new _ _
  rw [← hw7]
  clear hw7
  have HO7 := Lib.hid (hO.out.below hb7)
  have HB7 := Lib.hid (below_trans hB.out hb7)
  have HTS := Lib.hid (hts.out.below hb7)
  have HM7 := Lib.hid hm7
  have hlb := Nat.lt_of_lt_of_le hbt hb7.size
  replace e5 := cell_below hb7 e5
  replace e6 := cell_below hb7 e6
  replace e12 := cell_below hb7 e12
  obtain ⟨⟨m0, m1, m2, m3, m4⟩, -⟩ := blc5 hm7
  have hlm := bl_lt hm7
  clear hb7 hm7 hO hB hbt e0 e1 e2 e3 e4 hts
  go_wp2
  refine ⟨⟨_, st_of 228 (by rfl), k + 1, _, by omega, rfl, rfl, rfl, by show _ = Value.int .i64 _; go_num, by show Own _ _ _ _ _; rw [hnx.out]; exact HO7.out, HB7⟩, ?_⟩
  show S.length - (intOf (.int .i64 ((k : Int) + 1))).toNat < S.length - k
  simp [intOf]; omega
set_option maxHeartbeats 4000000 in
set_option maxRecDepth 100000 in
theorem fire_else (g5 : Nat) (A6 : Option Addr) (c6 : Nat) (S : List Sn) (rs : List SnR) (W : List Tm) (s : Sn) (w3 wr : World) (f : Nat → Value) (Q0 : Exit → Act → World → Prop) (k : Nat) (u8 : Value) (hls : S.length ≤ 300) (hlk : k < S.length)
    (HRL : Hid (Rd w3 A6 rs)) (HSS : Hid (Sns w3 rs S)) (HSK : Hid (S[k]? = some s)) (HNX : Hid (fireN [] (S.take (k + 1)) = fireS W s)) (hwl : W.length ≤ 64)
    (h5 : f 5 = .pointer (some ⟨g5, 0, none⟩)) (h6 : f 6 = .slice A6 S.length c6) (h8 : f 8 = u8) (h9 : f 9 = .int .i64 (k : Int))
    (hO : Hid (Own wr w3.heap.size 86 u8 W)) (hB : Hid (Below w3.heap.size w3 wr)) (he : s.e = 0) (hk8 : s.a.k ≠ 8) (hk9 : s.a.k ≠ 9) (hk10 : s.a.k ≠ 10) :
    firesOut.wp Try.prog (Exit.then (fun a' w' => fireI g5 A6 c6 S w3 a' w' ∧ fireMu S.length a' w' < fireMu S.length (st 228 f) wr) Q0) (st 228 f) wr := by
  conv => arg 2; whnf
  have hmu : Hid (fireMu S.length (st 228 f) wr = S.length - k) := by
    show _ = _
    unfold fireMu
    rw [st_getD (by decide), h9]; rfl
  rw [hmu.out]
  rw [stf_all, h5, h6, h8, h9]
  clear h5 h6 h8 h9
  obtain ⟨bb, off, s', ta, tc, hAeq, hs', hts, e0, e1, e2, e3, e4, e5, e6, e7, e8, e9, e10, e11, e12⟩ := (HRL.out.below hB.out).seen (HSS.out.below hB.out) k (by rw [HSS.out.1]; exact hlk)
  subst hAeq
  obtain rfl : s = s' := Option.some.inj (HSK.out.symm.trans hs'.out)
  have hbt : bb < wr.heap.size := World.block_lt_of_cell? wr _ e0
  obtain ⟨⟨sk, sa, sb, sn, sd⟩, se, snow, sl, sts⟩ := s
  simp only at e0 e1 e2 e3 e4 e5 e6 e7 e8 e9 e10 e11 e12
  clear hs' e7 e8 e9 e10 e11
  have q1 : (se != 0) = false := bne_eq_false_iff_eq.2 he
  have q2 : (sk == 8) = false := beq_eq_false_iff_ne.2 hk8
  have q3 : (sk == 9) = false := beq_eq_false_iff_ne.2 hk9
  have q4 : (sk != 10) = true := bne_iff_ne.2 hk10
  have hnx : Hid (fireN [] (S.take (k + 1)) = W) := by
    show _ = _
    rw [HNX.out]; unfold fireS setF
    rw [if_neg (fun h => h he), if_neg hk10, if_neg hk8, if_neg hk9]
  clear he HNX hk8 hk9 hk10
  go_upto_region 11 with fail
  obtain ⟨w7, hw7⟩ : ∃ w7, w7 = wr.alloc (.cells #[.int .i64 sk, .int .i64 sa, .int .i64 sb, .int .i64 sn, .string sd] 53) := ⟨_, rfl⟩
  have hb7 : Below wr.heap.size wr w7 := by rw [hw7]; exact below_alloc (Below.refl _ _) _
  have hm7 : w7.heap[wr.heap.size]? = some (.cells #[.int .i64 sk, .int .i64 sa, .int .i64 sb, .int .i64 sn, .string sd] 53 (0, 0)) := by rw [hw7]; exact bl_new _ _
  rw [← hw7]
  clear hw7
  have HO7 := Lib.hid (hO.out.below hb7)
  have HB7 := Lib.hid (below_trans hB.out hb7)
  have HTS := Lib.hid (hts.out.below hb7)
  have HM7 := Lib.hid hm7
  have hlb := Nat.lt_of_lt_of_le hbt hb7.size
  replace e5 := cell_below hb7 e5
  replace e6 := cell_below hb7 e6
  replace e12 := cell_below hb7 e12
  obtain ⟨⟨m0, m1, m2, m3, m4⟩, -⟩ := blc5 hm7
  have hlm := bl_lt hm7
  clear hb7 hm7 hO hB hbt e0 e1 e2 e3 e4 hts
  go_wp2
  refine ⟨⟨_, st_of 228 (by rfl), k + 1, _, by omega, rfl, rfl, rfl, by show _ = Value.int .i64 _; go_num, by show Own _ _ _ _ _; rw [hnx.out]; exact HO7.out, HB7⟩, ?_⟩
  show S.length - (intOf (.int .i64 ((k : Int) + 1))).toNat < S.length - k
  simp [intOf]; omega
set_option maxHeartbeats 4000000 in
set_option maxRecDepth 100000 in
theorem fire_stop (g5 : Nat) (A6 : Option Addr) (c6 : Nat) (S : List Sn) (rs : List SnR) (W : List Tm) (s : Sn) (w3 wr : World) (f : Nat → Value) (Q0 : Exit → Act → World → Prop) (k : Nat) (u8 : Value) (hls : S.length ≤ 300) (hlk : k < S.length)
    (HRL : Hid (Rd w3 A6 rs)) (HSS : Hid (Sns w3 rs S)) (HSK : Hid (S[k]? = some s)) (HNX : Hid (fireN [] (S.take (k + 1)) = fireS W s)) (hwl : W.length ≤ 64)
    (h5 : f 5 = .pointer (some ⟨g5, 0, none⟩)) (h6 : f 6 = .slice A6 S.length c6) (h8 : f 8 = u8) (h9 : f 9 = .int .i64 (k : Int))
    (hO : Hid (Own wr w3.heap.size 86 u8 W)) (hB : Hid (Below w3.heap.size w3 wr)) (he : s.e = 0) (hk9 : s.a.k = 9) :
    firesOut.wp Try.prog (Exit.then (fun a' w' => fireI g5 A6 c6 S w3 a' w' ∧ fireMu S.length a' w' < fireMu S.length (st 228 f) wr) Q0) (st 228 f) wr := by
  conv => arg 2; whnf
  have hmu : Hid (fireMu S.length (st 228 f) wr = S.length - k) := by
    show _ = _
    unfold fireMu
    rw [st_getD (by decide), h9]; rfl
  rw [hmu.out]
  rw [stf_all, h5, h6, h8, h9]
  clear h5 h6 h8 h9
  obtain ⟨bb, off, s', ta, tc, hAeq, hs', hts, e0, e1, e2, e3, e4, e5, e6, e7, e8, e9, e10, e11, e12⟩ := (HRL.out.below hB.out).seen (HSS.out.below hB.out) k (by rw [HSS.out.1]; exact hlk)
  subst hAeq
  obtain rfl : s = s' := Option.some.inj (HSK.out.symm.trans hs'.out)
  have hbt : bb < wr.heap.size := World.block_lt_of_cell? wr _ e0
  obtain ⟨⟨sk, sa, sb, sn, sd⟩, se, snow, sl, sts⟩ := s
  simp only at e0 e1 e2 e3 e4 e5 e6 e7 e8 e9 e10 e11 e12
  clear hs' e7 e8 e9 e10 e11
  simp only at hk9
  subst hk9
  have q1 : (se != 0) = false := bne_eq_false_iff_eq.2 he
  have hnx : Hid (fireN [] (S.take (k + 1)) = othersF sa sb W) := by
    show _ = _
    rw [HNX.out]; unfold fireS setF
    rw [if_neg (fun h => h he), if_neg (show ¬ (9 : Int) = 10 by decide), if_neg (show ¬ (9 : Int) = 8 by decide), if_pos rfl]
  clear he HNX
  go_upto_region 11 with fail
  obtain ⟨w7, hw7⟩ : ∃ w7, w7 = wr.alloc (.cells #[.int .i64 9, .int .i64 sa, .int .i64 sb, .int .i64 sn, .string sd] 53) := ⟨_, rfl⟩
  have hb7 : Below wr.heap.size wr w7 := by rw [hw7]; exact below_alloc (Below.refl _ _) _
  have hm7 : w7.heap[wr.heap.size]? = some (.cells #[.int .i64 9, .int .i64 sa, .int .i64 sb, .int .i64 sn, .string sd] 53 (0, 0)) := by rw [hw7]; exact bl_new _ _
  rw [← hw7]
  clear hw7
  have HO7 := Lib.hid (hO.out.below hb7)
  have HB7 := Lib.hid (below_trans hB.out hb7)
  have HTS := Lib.hid (hts.out.below hb7)
  have HM7 := Lib.hid hm7
  have hlb := Nat.lt_of_lt_of_le hbt hb7.size
  replace e5 := cell_below hb7 e5
  replace e6 := cell_below hb7 e6
  replace e12 := cell_below hb7 e12
  obtain ⟨⟨m0, m1, m2, m3, m4⟩, -⟩ := blc5 hm7
  have hlm := bl_lt hm7
  clear hb7 hm7 hO hB hbt e0 e1 e2 e3 e4 hts
  obtain ⟨A8, c8, hu8, -, hR8⟩ := HO7.out.slice
  subst hu8
  go_wp2_with fail
  refine (Ldrop_any A8 c8 W sa sb _ hR8 (by omega)).mono ?_
  rintro e w8 ⟨v8, rfl, ho8, hb8⟩
  have HO8 : Hid (Own w8 w3.heap.size 86 v8 (othersF sa sb W)) := ho8.weaken HB7.out.size
  have HB8 := Lib.hid (below_trans HB7.out hb8)
  have hm8 := bl_below HM7.out hb8
  have HM8 := Lib.hid hm8
  replace e6 := cell_below hb8 e6
  replace hlb := Nat.lt_of_lt_of_le hlb hb8.size
  clear m0 m1 m2 m3 m4 hlm e5 e12 ho8 hb8 hR8 HO7 HB7 HM7
  obtain ⟨⟨m0, m1, m2, m3, m4⟩, -⟩ := blc5 hm8
  have hlm := bl_lt hm8
  clear hm8
  go_wp2
  refine ⟨⟨_, st_of 228 (by rfl), k + 1, _, by omega, rfl, rfl, rfl, by show _ = Value.int .i64 _; go_num, by show Own _ _ _ _ _; rw [hnx.out]; exact HO8.out, HB8⟩, ?_⟩
  show S.length - (intOf (.int .i64 ((k : Int) + 1))).toNat < S.length - k
  simp [intOf]; omega
set_option maxHeartbeats 4000000 in
set_option maxRecDepth 100000 in
theorem fire_set (g5 : Nat) (A6 : Option Addr) (c6 : Nat) (S : List Sn) (rs : List SnR) (W : List Tm) (s : Sn) (w3 wr : World) (f : Nat → Value) (Q0 : Exit → Act → World → Prop) (k : Nat) (u8 : Value) (hls : S.length ≤ 300) (hlk : k < S.length)
    (HRL : Hid (Rd w3 A6 rs)) (HSS : Hid (Sns w3 rs S)) (HSK : Hid (S[k]? = some s)) (HNX : Hid (fireN [] (S.take (k + 1)) = fireS W s)) (hwl : W.length ≤ 64)
    (h5 : f 5 = .pointer (some ⟨g5, 0, none⟩)) (h6 : f 6 = .slice A6 S.length c6) (h8 : f 8 = u8) (h9 : f 9 = .int .i64 (k : Int))
    (hO : Hid (Own wr w3.heap.size 86 u8 W)) (hB : Hid (Below w3.heap.size w3 wr)) (he : s.e = 0) (hk8 : s.a.k = 8) (hn0 : 0 ≤ s.now) (hn1 : s.now ≤ 1099511627776) (hn2 : 1 ≤ s.a.n) (hn3 : s.a.n ≤ 1000) (hQ0 : ∀ (d : Option Tmp) (v : Value) c a w, Q0 (.panic c) (a.put d v) w → Q0 (.panic c) a w) :
    firesOut.wp Try.prog (Exit.then (fun a' w' => fireI g5 A6 c6 S w3 a' w' ∧ fireMu S.length a' w' < fireMu S.length (st 228 f) wr) Q0) (st 228 f) wr := by
  conv => arg 2; whnf
  have hmu : Hid (fireMu S.length (st 228 f) wr = S.length - k) := by
    show _ = _
    unfold fireMu
    rw [st_getD (by decide), h9]; rfl
  rw [hmu.out]
  rw [stf_all, h5, h6, h8, h9]
  clear h5 h6 h8 h9
  obtain ⟨bb, off, s', ta, tc, hAeq, hs', hts, e0, e1, e2, e3, e4, e5, e6, e7, e8, e9, e10, e11, e12⟩ := (HRL.out.below hB.out).seen (HSS.out.below hB.out) k (by rw [HSS.out.1]; exact hlk)
  subst hAeq
  obtain rfl : s = s' := Option.some.inj (HSK.out.symm.trans hs'.out)
  have hbt : bb < wr.heap.size := World.block_lt_of_cell? wr _ e0
  obtain ⟨⟨sk, sa, sb, sn, sd⟩, se, snow, sl, sts⟩ := s
  simp only at e0 e1 e2 e3 e4 e5 e6 e7 e8 e9 e10 e11 e12
  clear hs' e7 e8 e9 e10 e11
  simp only at hk8 hn0 hn1 hn2 hn3
  subst hk8
  have q1 : (se != 0) = false := bne_eq_false_iff_eq.2 he
  have hnx : Hid (fireN [] (S.take (k + 1)) = othersF sa sb W ++ [⟨snow + sn, sa, sb⟩]) := by
    show _ = _
    rw [HNX.out]; unfold fireS setF
    rw [if_neg (fun h => h he), if_neg (show ¬ (8 : Int) = 10 by decide), if_pos rfl]
  have hol : (othersF sa sb W).length ≤ 64 := Nat.le_trans (List.length_filter_le _ _) hwl
  have hwr : IntKind.i64.wrap (snow + sn) = snow + sn := IntWalk.i64_in _ (by omega)
  clear he HNX
  go_upto_region 11 with fail
  obtain ⟨w7, hw7⟩ : ∃ w7, w7 = wr.alloc (.cells #[.int .i64 8, .int .i64 sa, .int .i64 sb, .int .i64 sn, .string sd] 53) := ⟨_, rfl⟩
  have hb7 : Below wr.heap.size wr w7 := by rw [hw7]; exact below_alloc (Below.refl _ _) _
  have hm7 : w7.heap[wr.heap.size]? = some (.cells #[.int .i64 8, .int .i64 sa, .int .i64 sb, .int .i64 sn, .string sd] 53 (0, 0)) := by rw [hw7]; exact bl_new _ _
  rw [← hw7]
  clear hw7
  have HO7 := Lib.hid (hO.out.below hb7)
  have HB7 := Lib.hid (below_trans hB.out hb7)
  have HTS := Lib.hid (hts.out.below hb7)
  have HM7 := Lib.hid hm7
  have hlb := Nat.lt_of_lt_of_le hbt hb7.size
  replace e5 := cell_below hb7 e5
  replace e6 := cell_below hb7 e6
  replace e12 := cell_below hb7 e12
  obtain ⟨⟨m0, m1, m2, m3, m4⟩, -⟩ := blc5 hm7
  have hlm := bl_lt hm7
  clear hb7 hm7 hO hB hbt e0 e1 e2 e3 e4 hts
  obtain ⟨A8, c8, hu8, -, hR8⟩ := HO7.out.slice
  subst hu8
  go_wp2_with fail
  refine (Ldrop_any A8 c8 W sa sb _ hR8 (by omega)).mono ?_
  rintro e w8 ⟨v8, rfl, ho8, hb8⟩
  have HO8 : Hid (Own w8 w3.heap.size 86 v8 (othersF sa sb W)) := ho8.weaken HB7.out.size
  have HB8 := Lib.hid (below_trans HB7.out hb8)
  have hm8 := bl_below HM7.out hb8
  have HM8 := Lib.hid hm8
  replace e6 := cell_below hb8 e6
  replace hlb := Nat.lt_of_lt_of_le hlb hb8.size
  clear m0 m1 m2 m3 m4 hlm e5 e12 ho8 hb8 hR8 HO7 HB7 HM7
  obtain ⟨⟨m0, m1, m2, m3, m4⟩, -⟩ := blc5 hm8
  have hlm := bl_lt hm8
  clear hm8
  go_upto_region 15 with fail
  refine wp_mixT [(0, true), (1, true), (2, true), (3, true), (4, true), (5, true), (6, true), (7, true), (8, true), (9, true), (10, true), (11, true), (12, true), (13, true), (14, false)] 15 (fun w' => Below w8.heap.size w8 w')
    (by kernel_rfl) (by kernel_rfl) (by kernel_rfl) (by kernel_rfl) (by kernel_rfl) (fun d v c a w h => hQ0 d v c a w h) (Below.refl _ _).drew ?_
  simp only [pick, List.map_cons, List.map_nil, List.getD_cons_zero, List.getD_cons_succ, List.drop_succ_cons, List.drop_zero]
  iterate 14
    apply mix_take
    case hw => rfl
    case hy => intro W hW; obtain ⟨hwc, -⟩ := bcell hW; go_simp; try rfl
    simp only [Act.put, List.setIfInBounds_toArray, List.set_cons_zero, List.set_cons_succ]
  refine mix_do fun K' hK' => ?_
  go_wp2
  refine hK' _ _ (below_alloc (Below.refl _ _).drew _) ?_
  clear hK' K'
  refine mix_nil ?_
  go_wp2_with (at_builtin; refine hid_stop ?_)
  change wpList _ _ _ _ _ (World.alloc w8.drew _)
  refine wpList_app _ w3.heap.size rfl (.tmp 78) (.tmp 92) 24 86 _ 24 rfl Try.underlying24 infoT rfl (by decide) (by decide) v8 (othersF sa sb W) [(⟨snow + sn, sa, sb⟩ : Tm)] (some ⟨w8.heap.size, 0, none⟩) 1 rfl rfl (Own.alloc (Own.drew HO8.out) _) ?hR ?hB ?hL ?_
  case hR => exact Rd.new w8.drew 86 (⟨snow + sn, sa, sb⟩ : Tm) #[.int .i64 (snow + sn), .int .i64 sa, .int .i64 sb] rfl
  case hB => have h := HB8.out.size; show _ ≤ (World.alloc w8.drew _).heap.size; rw [World.size_alloc]; show _ ≤ w8.heap.size + 1; omega
  case hL => simp; omega
  intro v1 w9 ho hg hat
  have hgq : w8.grownBy w9 v8.ownBlock := grown_of_drew (grown_of_alloc hg)
  have HF1 : Hid (Own w9 w3.heap.size 86 v1 (fireN [] (S.take (k + 1)))) := by
    show Own _ _ _ _ _
    rw [hnx.out]; exact ho
  have HF2 : Hid (Below w3.heap.size w3 w9) := HB8.out.grown hgq HB8.out.size (fun k hk => (HO8.out.lt k hk).1)
  have hgc := hgq
  have HG := Lib.hid hgq
  have m0' : w9.cell? ⟨wr.heap.size, 0, none⟩ = some (.int .i64 8) := by
    have hne : some wr.heap.size ≠ v8.ownBlock := fun e => HO8.out.ne HM8.out (by decide) e.symm
    rw [bl_cell (bl_grown HM8.out hgq hne) 0]; rfl
  have hlm' : wr.heap.size < w9.heap.size := Nat.lt_of_lt_of_le hlm hgq.size
  clear ho hg hat hgq hgc m0 m1 m2 m3 m4 hlm e6 HO8 HB8 HM8 hlb
  go_wp2
  refine ⟨⟨_, st_of 228 (by rfl), k + 1, _, by omega, rfl, rfl, rfl, by show _ = Value.int .i64 _; go_num, HF1, HF2⟩, ?_⟩
  show S.length - (intOf (.int .i64 ((k : Int) + 1))).toNat < S.length - k
  simp [intOf]; omega
end Go.Proofs.Ythlbmcfliejdiaa
end

section
set_option linter.unusedVariables false
set_option linter.unusedSimpArgs false
namespace Go.Proofs.Ythlbmcfliejdiaa
open Go.RowKit
attribute [local go_sem high] eqATm eqALt eqAAc eqALk

/-- What is known of a tick. -/
def TickOk (W : List Tm) (now : Int) (ts : List Tm) : Prop :=
  (∀ f ∈ ts, f.t = now) ∧ (∀ (k : Nat) f g, ts[k]? = some f → ts[k + 1]? = some g → f.node < g.node ∨ f.node = g.node ∧ f.tag < g.tag) ∧
    (∀ (k : Nat) f, ts[k]? = some f → (othersF f.node f.tag (dropsF W (ts.take k))).length + 1 = (dropsF W (ts.take k)).length) ∧ (∀ t ∈ dropsF W ts, now < t.t) ∧ ts.length ≤ 64
theorem drops_le (W : List Tm) : ∀ (l : List Tm), (dropsF W l).length ≤ W.length
  | [] => Nat.le_refl _
  | f :: r => Nat.le_trans (drops_le (othersF f.node f.tag W) r) (List.length_filter_le _ _)
def fi1I (g5 bb off k : Nat) (c6 n : Nat) (W : List Tm) (ts : List Tm) (v11 : Value) (w3 : World) (a : Act) (wr : World) : Prop :=
  ∃ f, a = st 228 f ∧ ∃ (j : Nat) (u8 : Value), j ≤ ts.length ∧ f 5 = .pointer (some ⟨g5, 0, none⟩) ∧ f 6 = .slice (some ⟨bb, off, none⟩) n c6 ∧ f 8 = u8 ∧ f 9 = .int .i64 (k : Int) ∧ f 11 = v11 ∧ f 12 = .int .i64 (j : Int) ∧ Hid (Own wr w3.heap.size 86 u8 (dropsF W (ts.take j))) ∧ Hid (Below w3.heap.size w3 wr)
def fi1Mu (n : Nat) (a : Act) (_ : World) : Nat := n - (intOf (a.tmps.getD 12 undef)).toNat
set_option maxHeartbeats 4000000 in
set_option maxRecDepth 100000 in
theorem fire_in1 (g5 bb off k c6 n : Nat) (W ts : List Tm) (now : Int) (ta : Option Addr) (tc : Nat) (w3 wr : World) (f : Nat → Value) (Q0 : Exit → Act → World → Prop) (j : Nat) (u8 : Value) (hkn : k < n) (hn : n ≤ 300) (hwl : W.length ≤ 64) (hlj : j < ts.length)
    (HNW : Hid (w3.cell? ⟨bb, off + k * 13 + 6, none⟩ = some (.int .i64 now))) (HTS : Hid (Rd w3 ta ts)) (HT : Hid (TickOk W now ts))
    (h5 : f 5 = .pointer (some ⟨g5, 0, none⟩)) (h6 : f 6 = .slice (some ⟨bb, off, none⟩) n c6) (h8 : f 8 = u8) (h9 : f 9 = .int .i64 (k : Int)) (h11 : f 11 = .slice ta ts.length tc) (h12 : f 12 = .int .i64 (j : Int))
    (hO : Hid (Own wr w3.heap.size 86 u8 (dropsF W (ts.take j)))) (hB : Hid (Below w3.heap.size w3 wr)) :
    firesIn1.wp Try.prog (Exit.then (fun a' w' => fi1I g5 bb off k c6 n W ts (.slice ta ts.length tc) w3 a' w' ∧ fi1Mu ts.length a' w' < fi1Mu ts.length (st 228 f) wr) Q0) (st 228 f) wr := by
  conv => arg 2; whnf
  have hmu : Hid (fi1Mu ts.length (st 228 f) wr = ts.length - j) := by
    show _ = _
    unfold fi1Mu
    rw [st_getD (by decide), h12]; rfl
  rw [hmu.out]
  rw [stf_all, h5, h6, h8, h9, h11, h12]
  clear h5 h6 h8 h9 h11 h12
  have hlt := HT.out.2.2.2.2
  have e6 := cell_below hB.out HNW.out
  have hlb := World.block_lt_of_cell? wr _ e6
  simp only at hlb
  obtain ⟨b, of, d, rfl, hd, t0, t1, t2⟩ := (HTS.out.below hB.out).tm j hlj
  have hbt := World.block_lt_of_cell? wr _ t0
  simp only at hbt
  obtain ⟨A8, c8, hu8, -, hR8⟩ := hO.out.slice
  subst hu8
  obtain ⟨V, hV⟩ : ∃ V, V = dropsF W (ts.take j) := ⟨_, rfl⟩
  have hdl := HT.out.2.2.1 j d hd.out
  have hdm := HT.out.1 d (mem_at hd.out)
  have hsn : dropsF W (ts.take (j + 1)) = othersF d.node d.tag V := by rw [take_snocT hd, dropsF_snoc, ← hV]
  have hvl : V.length ≤ 64 := by rw [hV]; exact Nat.le_trans (drops_le W _) hwl
  rw [← hV] at hdl hO hR8 ⊢
  obtain ⟨m, hm⟩ : ∃ m, m = (othersF d.node d.tag V).length := ⟨_, rfl⟩
  rw [← hm] at hdl
  have HM : Hid ((othersF d.node d.tag V).length = m) := hm.symm
  have HSN := Lib.hid hsn
  have HVL := Lib.hid hdl
  have HO := hO
  have HR8 := Lib.hid hR8
  have p1 : (d.t != now) = false := bne_eq_false_iff_eq.2 hdm
  have hvm : m ≤ 64 := by omega
  clear hsn hdl hV hm hR8 hdm
  have finish : ∀ (w4 : World), Hid (Below wr.heap.size wr w4) → True := fun _ _ => trivial
  clear finish
  rcases Nat.eq_zero_or_pos j with h0 | h0
  · subst h0
    go_upto_region 21 with fail
    go_quiet (fail)
    go_upto_region 24 with fail
    generalize hw4 : wr.drewN _ = w4
    have hb4 : Below wr.heap.size wr w4 := by rw [← hw4]; exact below_drewN (Below.refl _ _) _
    have HR4 := Lib.hid (HR8.out.below hb4)
    have HB4 := Lib.hid (below_trans hB.out hb4)
    have hz4 := hb4.size
    replace t0 := cell_below hb4 t0
    replace t1 := cell_below hb4 t1
    replace t2 := cell_below hb4 t2
    replace e6 := cell_below hb4 e6
    replace hlb := Nat.lt_of_lt_of_le hlb hz4
    replace hbt := Nat.lt_of_lt_of_le hbt hz4
    clear hw4 hb4 HO hO hB HR8
    refine wp_still_tail 11 (by kernel_rfl) (by kernel_rfl) ?_
    simp only [List.take_succ_cons, List.take_zero, List.drop_succ_cons, List.drop_zero]
    repeat still_step
    refine wpStill_nil ?_
    go_wp2_with fail
    refine (Ldrop_any A8 c8 V d.node d.tag _ (Rd.drew HR4.out) (by omega)).mono ?_
    rintro e w5 ⟨v5, rfl, ho5, hb5⟩
    obtain ⟨A9, c9, rfl, -, -⟩ := ho5.slice
    have HO5 : Hid (Own w5 w3.heap.size 86 (.slice A9 m c9) (dropsF W (ts.take (0 + 1)))) := by
      have h := ho5.weaken (show w3.heap.size ≤ w4.drew.heap.size from HB4.out.size)
      rw [HM.out] at h
      show Own _ _ _ _ _
      rw [HSN.out]; exact h
    rw [HM.out]
    have hb5' := below_trans (Below.refl _ w4).drew hb5
    have HB5 := Lib.hid (below_trans HB4.out hb5')
    replace t0 := cell_below hb5' t0
    replace e6 := cell_below hb5' e6
    replace hlb := Nat.lt_of_lt_of_le hlb hb5'.size
    replace hbt := Nat.lt_of_lt_of_le hbt hb5'.size
    have hvw : IntKind.i64.wrap ((V.length : Int) - 1) = (m : Int) := by
      rw [show (V.length : Int) - 1 = m by have := HVL.out; omega]; exact IntWalk.i64_in _ (by omega)
    clear ho5 hb5 hb5' t1 t2 HB4 HR4 hz4
    simp only [Nat.zero_mul, Nat.add_zero] at t0
    go_upto_region 25 with fail
    go_quiet (fail)
    go_wp2
    refine ⟨⟨_, st_of 228 (by rfl), 0 + 1, _, by omega, rfl, rfl, rfl, rfl, rfl, by show _ = Value.int .i64 _; go_num, HO5.out.drewN _, below_drewN HB5.out _⟩, ?_⟩
    show ts.length - (intOf (.int .i64 ((0 : Int) + 1))).toNat < ts.length - 0
    simp [intOf]; omega
  · obtain ⟨i, rfl⟩ : ∃ i, j = i + 1 := ⟨j - 1, by omega⟩
    obtain ⟨b', of', q, e, hq, p0, q1, q2⟩ := (HTS.out.below hB.out).tm i (by omega)
    cases e
    have hw : IntKind.i64.wrap (i : Int) = i := IntWalk.i64_in _ (by omega)
    have z0 : (0 : Int) ≤ (i : Int) + 1 := by omega
    have z1 : ((i : Int) + 1).toNat = i + 1 := by omega
    have z2 : i < ts.length := by omega
    have z3 : decide ((0 : Int) < (i : Int) + 1) = true := decide_eq_true (by omega)
    rcases HT.out.2.1 i q d hq.out hd.out with h1 | ⟨h1, h2⟩
    · have d1 : decide (d.node < q.node) = false := decide_eq_false (by omega)
      have d2 : (q.node == d.node) = false := beq_eq_false_iff_ne.2 (by omega)
      clear h0 h1
      go_upto_region 21 with fail
      go_quiet (fail)
      go_upto_region 24 with fail
      generalize hw4 : wr.drewN _ = w4
      have hb4 : Below wr.heap.size wr w4 := by rw [← hw4]; exact below_drewN (Below.refl _ _) _
      have HR4 := Lib.hid (HR8.out.below hb4)
      have HB4 := Lib.hid (below_trans hB.out hb4)
      have hz4 := hb4.size
      replace t0 := cell_below hb4 t0
      replace t1 := cell_below hb4 t1
      replace t2 := cell_below hb4 t2
      replace e6 := cell_below hb4 e6
      replace hlb := Nat.lt_of_lt_of_le hlb hz4
      replace hbt := Nat.lt_of_lt_of_le hbt hz4
      clear hw4 hb4 HO hO hB HR8 p0 q1 q2
      refine wp_still_tail 11 (by kernel_rfl) (by kernel_rfl) ?_
      simp only [List.take_succ_cons, List.take_zero, List.drop_succ_cons, List.drop_zero]
      repeat still_step
      refine wpStill_nil ?_
      go_wp2_with fail
      refine (Ldrop_any A8 c8 V d.node d.tag _ (Rd.drew HR4.out) (by omega)).mono ?_
      rintro e w5 ⟨v5, rfl, ho5, hb5⟩
      obtain ⟨A9, c9, rfl, -, -⟩ := ho5.slice
      have HO5 : Hid (Own w5 w3.heap.size 86 (.slice A9 m c9) (dropsF W (ts.take ((i + 1) + 1)))) := by
        have h := ho5.weaken (show w3.heap.size ≤ w4.drew.heap.size from HB4.out.size)
        rw [HM.out] at h
        show Own _ _ _ _ _
        rw [HSN.out]; exact h
      rw [HM.out]
      have hb5' := below_trans (Below.refl _ w4).drew hb5
      have HB5 := Lib.hid (below_trans HB4.out hb5')
      replace t0 := cell_below hb5' t0
      replace e6 := cell_below hb5' e6
      replace hlb := Nat.lt_of_lt_of_le hlb hb5'.size
      replace hbt := Nat.lt_of_lt_of_le hbt hb5'.size
      have hvw : IntKind.i64.wrap ((V.length : Int) - 1) = (m : Int) := by
        rw [show (V.length : Int) - 1 = m by have := HVL.out; omega]; exact IntWalk.i64_in _ (by omega)
      clear ho5 hb5 hb5' t1 t2 HB4 HR4 hz4
      go_upto_region 25 with fail
      go_quiet (fail)
      go_wp2
      refine ⟨⟨_, st_of 228 (by rfl), (i + 1) + 1, _, by omega, rfl, rfl, rfl, rfl, rfl, by show _ = Value.int .i64 _; go_num, HO5.out.drewN _, below_drewN HB5.out _⟩, ?_⟩
      show ts.length - (intOf (.int .i64 ((((i + 1 : Nat) : Int) : Int) + 1))).toNat < ts.length - (i + 1)
      simp [intOf]; omega
    · have d1 : decide (d.node < q.node) = false := decide_eq_false (by omega)
      have d2 : (q.node == d.node) = true := beq_iff_eq.2 h1
      have d3 : decide (d.tag ≤ q.tag) = false := decide_eq_false (by omega)
      clear h0 h1 h2
      go_upto_region 21 with fail
      go_quiet (fail)
      go_upto_region 24 with fail
      generalize hw4 : wr.drewN _ = w4
      have hb4 : Below wr.heap.size wr w4 := by rw [← hw4]; exact below_drewN (Below.refl _ _) _
      have HR4 := Lib.hid (HR8.out.below hb4)
      have HB4 := Lib.hid (below_trans hB.out hb4)
      have hz4 := hb4.size
      replace t0 := cell_below hb4 t0
      replace t1 := cell_below hb4 t1
      replace t2 := cell_below hb4 t2
      replace e6 := cell_below hb4 e6
      replace hlb := Nat.lt_of_lt_of_le hlb hz4
      replace hbt := Nat.lt_of_lt_of_le hbt hz4
      clear hw4 hb4 HO hO hB HR8 p0 q1 q2
      refine wp_still_tail 11 (by kernel_rfl) (by kernel_rfl) ?_
      simp only [List.take_succ_cons, List.take_zero, List.drop_succ_cons, List.drop_zero]
      repeat still_step
      refine wpStill_nil ?_
      go_wp2_with fail
      refine (Ldrop_any A8 c8 V d.node d.tag _ (Rd.drew HR4.out) (by omega)).mono ?_
      rintro e w5 ⟨v5, rfl, ho5, hb5⟩
      obtain ⟨A9, c9, rfl, -, -⟩ := ho5.slice
      have HO5 : Hid (Own w5 w3.heap.size 86 (.slice A9 m c9) (dropsF W (ts.take ((i + 1) + 1)))) := by
        have h := ho5.weaken (show w3.heap.size ≤ w4.drew.heap.size from HB4.out.size)
        rw [HM.out] at h
        show Own _ _ _ _ _
        rw [HSN.out]; exact h
      rw [HM.out]
      have hb5' := below_trans (Below.refl _ w4).drew hb5
      have HB5 := Lib.hid (below_trans HB4.out hb5')
      replace t0 := cell_below hb5' t0
      replace e6 := cell_below hb5' e6
      replace hlb := Nat.lt_of_lt_of_le hlb hb5'.size
      replace hbt := Nat.lt_of_lt_of_le hbt hb5'.size
      have hvw : IntKind.i64.wrap ((V.length : Int) - 1) = (m : Int) := by
        rw [show (V.length : Int) - 1 = m by have := HVL.out; omega]; exact IntWalk.i64_in _ (by omega)
      clear ho5 hb5 hb5' t1 t2 HB4 HR4 hz4
      go_upto_region 25 with fail
      go_quiet (fail)
      go_wp2
      refine ⟨⟨_, st_of 228 (by rfl), (i + 1) + 1, _, by omega, rfl, rfl, rfl, rfl, rfl, by show _ = Value.int .i64 _; go_num, HO5.out.drewN _, below_drewN HB5.out _⟩, ?_⟩
      show ts.length - (intOf (.int .i64 ((((i + 1 : Nat) : Int) : Int) + 1))).toNat < ts.length - (i + 1)
      simp [intOf]; omega
def fi2I (g5 bb off k c6 n : Nat) (V : List Tm) (v8 : Value) (w4 : World) (a : Act) (wr : World) : Prop :=
  ∃ f, a = st 228 f ∧ ∃ (j : Nat), j ≤ V.length ∧ f 5 = .pointer (some ⟨g5, 0, none⟩) ∧ f 6 = .slice (some ⟨bb, off, none⟩) n c6 ∧ f 8 = v8 ∧ f 9 = .int .i64 (k : Int) ∧ f 14 = .int .i64 (j : Int) ∧ Hid (Below w4.heap.size w4 wr)
def fi2Mu (n : Nat) (a : Act) (_ : World) : Nat := n - (intOf (a.tmps.getD 14 undef)).toNat
set_option maxHeartbeats 4000000 in
set_option maxRecDepth 100000 in
theorem fire_in2 (g5 bb off k c6 n : Nat) (V : List Tm) (now : Int) (A8 : Option Addr) (c8 : Nat) (w4 wr : World) (f : Nat → Value) (Q0 : Exit → Act → World → Prop) (j : Nat) (hkn : k < n) (hn : n ≤ 300) (hwl : V.length ≤ 64) (hlj : j < V.length)
    (HNW : Hid (w4.cell? ⟨bb, off + k * 13 + 6, none⟩ = some (.int .i64 now))) (HR8 : Hid (Rd w4 A8 V)) (HT : Hid (∀ t ∈ V, now < t.t))
    (h5 : f 5 = .pointer (some ⟨g5, 0, none⟩)) (h6 : f 6 = .slice (some ⟨bb, off, none⟩) n c6) (h8 : f 8 = .slice A8 V.length c8) (h9 : f 9 = .int .i64 (k : Int)) (h14 : f 14 = .int .i64 (j : Int))
    (hB : Hid (Below w4.heap.size w4 wr)) :
    firesIn2.wp Try.prog (Exit.then (fun a' w' => fi2I g5 bb off k c6 n V (.slice A8 V.length c8) w4 a' w' ∧ fi2Mu V.length a' w' < fi2Mu V.length (st 228 f) wr) Q0) (st 228 f) wr := by
  conv => arg 2; whnf
  have hmu : Hid (fi2Mu V.length (st 228 f) wr = V.length - j) := by
    show _ = _
    unfold fi2Mu
    rw [st_getD (by decide), h14]; rfl
  rw [hmu.out]
  rw [stf_all, h5, h6, h8, h9, h14]
  clear h5 h6 h8 h9 h14
  have e6 := cell_below hB.out HNW.out
  have hlb := World.block_lt_of_cell? wr _ e6
  simp only at hlb
  obtain ⟨b, of, d, rfl, hd, t0, t1, t2⟩ := (HR8.out.below hB.out).tm j hlj
  have hbt := World.block_lt_of_cell? wr _ t0
  simp only at hbt
  have d1 : decide (d.t ≤ now) = false := decide_eq_false (by have := HT.out d (mem_at hd.out); omega)
  go_wp2
  go_quiet (fail)
  go_wp2
  refine ⟨⟨_, st_of 228 (by rfl), j + 1, by omega, rfl, rfl, rfl, rfl, by show _ = Value.int .i64 _; go_num, below_drewN hB.out _⟩, ?_⟩
  show V.length - (intOf (.int .i64 ((j : Int) + 1))).toNat < V.length - j
  simp [intOf]; omega
set_option maxHeartbeats 4000000 in
set_option maxRecDepth 100000 in
theorem fire_tick (g5 : Nat) (A6 : Option Addr) (c6 : Nat) (S : List Sn) (rs : List SnR) (W : List Tm) (s : Sn) (w3 wr : World) (f : Nat → Value) (Q0 : Exit → Act → World → Prop) (k : Nat) (u8 : Value) (hls : S.length ≤ 300) (hlk : k < S.length)
    (HRL : Hid (Rd w3 A6 rs)) (HSS : Hid (Sns w3 rs S)) (HSK : Hid (S[k]? = some s)) (HNX : Hid (fireN [] (S.take (k + 1)) = fireS W s)) (hwl : W.length ≤ 64)
    (h5 : f 5 = .pointer (some ⟨g5, 0, none⟩)) (h6 : f 6 = .slice A6 S.length c6) (h8 : f 8 = u8) (h9 : f 9 = .int .i64 (k : Int))
    (hO : Hid (Own wr w3.heap.size 86 u8 W)) (hB : Hid (Below w3.heap.size w3 wr)) (he : s.e = 0) (hk10 : s.a.k = 10) (HT : Hid (TickOk W s.now s.ts)) :
    firesOut.wp Try.prog (Exit.then (fun a' w' => fireI g5 A6 c6 S w3 a' w' ∧ fireMu S.length a' w' < fireMu S.length (st 228 f) wr) Q0) (st 228 f) wr := by
  conv => arg 2; whnf
  have hmu : Hid (fireMu S.length (st 228 f) wr = S.length - k) := by
    show _ = _
    unfold fireMu
    rw [st_getD (by decide), h9]; rfl
  rw [hmu.out]
  rw [stf_all, h5, h6, h8, h9]
  clear h5 h6 h8 h9
  obtain ⟨bb, off, s', ta, tc, hAeq, hs', hts, e0, e1, e2, e3, e4, e5, e6, e7, e8, e9, e10, e11, e12⟩ := HRL.out.seen HSS.out k (by rw [HSS.out.1]; exact hlk)
  subst hAeq
  obtain rfl : s = s' := Option.some.inj (HSK.out.symm.trans hs'.out)
  obtain ⟨⟨sk, sa, sb, sn, sd⟩, se, snow, sl, sts⟩ := s
  simp only at e0 e1 e2 e3 e4 e5 e6 e7 e8 e9 e10 e11 e12
  have E6 := Lib.hid e6
  have HTS3 := hts
  replace e0 := cell_below hB.out e0
  replace e1 := cell_below hB.out e1
  replace e2 := cell_below hB.out e2
  replace e3 := cell_below hB.out e3
  replace e4 := cell_below hB.out e4
  replace e5 := cell_below hB.out e5
  replace e6 := cell_below hB.out e6
  replace e12 := cell_below hB.out e12
  have hbt : bb < wr.heap.size := World.block_lt_of_cell? wr _ e0
  replace hts := Lib.hid (hts.out.below hB.out)
  clear hs' e7 e8 e9 e10 e11
  simp only at hk10 HT
  subst hk10
  have q1 : (se != 0) = false := bne_eq_false_iff_eq.2 he
  have hnx : Hid (fireN [] (S.take (k + 1)) = dropsF W sts) := by
    show _ = _
    rw [HNX.out]; unfold fireS
    rw [if_neg (fun h => h he), if_pos rfl]
  have htl := HT.out.2.2.2.2
  clear he HNX
  go_upto_region 11 with fail
  obtain ⟨w7, hw7⟩ : ∃ w7, w7 = wr.alloc (.cells #[.int .i64 10, .int .i64 sa, .int .i64 sb, .int .i64 sn, .string sd] 53) := ⟨_, rfl⟩
  have hb7 : Below wr.heap.size wr w7 := by rw [hw7]; exact below_alloc (Below.refl _ _) _
  have hm7 : w7.heap[wr.heap.size]? = some (.cells #[.int .i64 10, .int .i64 sa, .int .i64 sb, .int .i64 sn, .string sd] 53 (0, 0)) := by rw [hw7]; exact bl_new _ _
  rw [← hw7]
  clear hw7
  have HO7 := Lib.hid (hO.out.below hb7)
  have HB7 := Lib.hid (below_trans hB.out hb7)
  have HTS := Lib.hid (hts.out.below hb7)
  have HM7 := Lib.hid hm7
  have hlb := Nat.lt_of_lt_of_le hbt hb7.size
  replace e5 := cell_below hb7 e5
  replace e6 := cell_below hb7 e6
  replace e12 := cell_below hb7 e12
  obtain ⟨⟨m0, m1, m2, m3, m4⟩, -⟩ := blc5 hm7
  have hlm := bl_lt hm7
  clear hb7 hm7 hO hB hbt e0 e1 e2 e3 e4 hts
  go_wp2
  clear m0 m1 m2 m3 m4 hlm e5 e6 e12 hlb HM7
  refine wp_st 228 (by rfl) fun f0 hf0 => ?_
  refine wp_loop (fi1I g5 bb off k c6 S.length W sts (.slice ta sts.length tc) w3) (fi1Mu sts.length) ⟨f0, rfl, 0, u8, Nat.zero_le _, (hf0 5).trans rfl, (hf0 6).trans rfl, (hf0 8).trans rfl, (hf0 9).trans rfl, (hf0 11).trans rfl, (hf0 12).trans rfl, HO7, HB7⟩ ?_
  clear hf0 f0 HO7 HB7
  rintro a wq ⟨f, rfl, j, v8, hj, h5, h6, h8, h9, h11, h12, hO, hB⟩
  by_cases hlj : j < sts.length
  · exact fire_in1 g5 bb off k c6 S.length W sts snow ta tc w3 wq f _ j v8 hlk hls hwl hlj E6 HTS3 HT h5 h6 h8 h9 h11 h12 hO hB
  obtain rfl : j = sts.length := by omega
  rw [List.take_length] at hO
  obtain ⟨A8, c8, hv8, -, hR8⟩ := hO.out.slice
  have hvl : (dropsF W sts).length ≤ 64 := Nat.le_trans (drops_le W sts) hwl
  have HT2 : Hid (∀ t ∈ dropsF W sts, snow < t.t) := HT.out.2.2.2.1
  obtain ⟨V, hV⟩ : ∃ V, V = dropsF W sts := ⟨_, rfl⟩
  have HNV : Hid (fireN [] (S.take (k + 1)) = V) := hnx.out.trans hV.symm
  rw [← hV] at hO hR8 hvl HT2 hv8
  subst hv8
  have HR8 := Lib.hid hR8
  have HN6 := Lib.hid (cell_below hB.out E6.out)
  rw [stf_all, h5, h6, h8, h9, h11, h12]
  clear h5 h6 h8 h9 h11 h12 hV hR8 hnx HT
  go_wp2
  refine wp_st 228 (by rfl) fun f0 hf0 => ?_
  refine wp_loop (fi2I g5 bb off k c6 S.length V (.slice A8 V.length c8) wq) (fi2Mu V.length) ⟨f0, rfl, 0, Nat.zero_le _, (hf0 5).trans rfl, (hf0 6).trans rfl, (hf0 8).trans rfl, (hf0 9).trans rfl, (hf0 14).trans rfl, Below.refl _ _⟩ ?_
  clear hf0 f0
  rintro a wz ⟨f, rfl, i, hi, h5, h6, h8, h9, h14, hB2⟩
  by_cases hli : i < V.length
  · exact fire_in2 g5 bb off k c6 S.length V snow A8 c8 wq wz f _ i hlk hls hvl hli HN6 HR8 HT2 h5 h6 h8 h9 h14 hB2
  obtain rfl : i = V.length := by omega
  have HF1 : Hid (Own wz w3.heap.size 86 (.slice A8 V.length c8) (fireN [] (S.take (k + 1)))) := by show Own _ _ _ _ _; rw [HNV.out]; exact hO.out.below hB2.out
  have HF2 : Hid (Below w3.heap.size w3 wz) := below_trans hB.out hB2.out
  rw [stf_all, h5, h6, h8, h9, h14]
  clear h5 h6 h8 h9 h14
  go_wp2
  refine ⟨⟨_, st_of 228 (by rfl), k + 1, _, by omega, rfl, rfl, rfl, by show _ = Value.int .i64 _; go_num, HF1, HF2⟩, ?_⟩
  show S.length - (intOf (.int .i64 ((k : Int) + 1))).toNat < S.length - k
  simp [intOf]; omega
end Go.Proofs.Ythlbmcfliejdiaa
end

section
set_option linter.unusedVariables false
set_option linter.unusedSimpArgs false
namespace Go.Proofs.Ythlbmcfliejdiaa
open Go.RowKit
attribute [local go_sem high] eqATm eqALt eqAAc eqALk

theorem set_bounds {x : Nt} (a : Ac) (hk : a.k = 8) (he : (actM x a).e = 0) : 1 ≤ a.n ∧ a.n ≤ 1000 ∧ (actM x a).x.now = x.now := by
  have e : actM x a = setM x a.a a.b a.n := by unfold actM; simp [hk]
  rw [e] at he ⊢
  unfold setM at he ⊢
  split at he
  · simp [errR] at he
  rename_i h1
  split at he
  · simp [errR] at he
  rename_i h2
  rw [if_neg h1, if_neg h2]
  simp only [setB, Bool.not_eq_false, Bool.and_eq_true, decide_eq_true_eq] at h1
  exact ⟨by omega, by omega, rfl⟩
set_option maxHeartbeats 8000000 in
set_option maxRecDepth 100000 in
theorem NetFires_any (n : Int) (xs : List Ac) (A : Option Addr) (c : Nat) (w : World) (hR : Rd w A xs) (hl : xs.length ≤ 9223372036854775807) :
    Calls Try.prog 11 #[.int .i64 n, .slice A xs.length c] w fun e w' => e = .returned (.bool true) ∧ Below w.heap.size w w' := by
  have HR := Lib.hid hR
  clear hR
  cases hf : fewB xs 300
  · have HFW := Lib.hid fun (w : World) (hR : Rd w A xs) => few_any A c xs 300 w hR hl
    rw [hf] at HFW
    clear hf
    go_enter Try.func11, Try.ntmps11
    go_wp2_with (first
      | (go_at_call 21; refine calls_below (HFW.out _ HR.out) ?_; intro w1 hb1)
      | (go_at_call 13; refine calls_below (sane_any _) ?_; intro w2 hb2))
    go_ret
    exact ⟨rfl, below_trans hb1 hb2⟩
  have hlx : xs.length ≤ 300 := by unfold fewB at hf; simp only [Bool.and_eq_true, decide_eq_true_eq] at hf; omega
  have hfw := fun (w : World) (hR : Rd w A xs) => few_any A c xs 300 w hR hl
  rw [hf] at hfw
  have HFW := Lib.hid hfw
  clear hf hfw hl
  by_cases hn : n < 1 ∨ 16 < n
  · have HP := Lib.hid fun (w : World) (v : Value) => Play_bad n v w hn
    clear hn
    go_enter Try.func11, Try.ntmps11
    go_wp2_with fail
    refine calls_below (HFW.out _ HR.out) ?_
    intro w1 hb1
    go_wp2_with fail
    refine (HP.out _ _).mono ?_
    rintro e w2 ⟨rfl, hb2⟩
    simp only [zNetV]
    go_wp2_with fail
    refine calls_below (sane_any _) ?_
    intro w3 hb3
    go_wp2
    go_ret
    exact ⟨rfl, below_trans hb1 (below_trans hb2 (below_trans (below_alloc (Below.refl _ _) _) hb3))⟩
  have h0 : 1 ≤ n := by omega
  have h1 : n ≤ 16 := by omega
  obtain ⟨x0, hx0⟩ : ∃ x, x = newX n := ⟨_, rfl⟩
  obtain ⟨S, hS⟩ : ∃ S, S = playS x0 xs := ⟨_, rfl⟩
  obtain ⟨x1, hx1⟩ : ∃ x, x = playX x0 xs := ⟨_, rfl⟩
  have hok0 : Ok x0 := by rw [hx0]; exact newX_ok h0 h1
  have hbd0 : Bd 0 x0 := by rw [hx0]; exact bd_new n
  have ht0 : x0.timers = [] := by rw [hx0]; rfl
  have hok1 : Ok x1 := by rw [hx1]; exact play_keeps xs hok0
  have hbd1 : Bd xs.length x1 := by
    have h := bd_play xs 0 hok0 hbd0
    rw [Nat.zero_add, ← hx1] at h
    exact h
  have HP : Hid (∀ w, Rd w A xs → Calls Try.prog 22 #[.int .i64 n, .slice A xs.length c] w fun e w' => ∃ v A6 c6 rs, e = .returned (.tuple #[v, .slice A6 xs.length c6, .int .i64 0]) ∧ NetO w' w.heap.size v x1 ∧ Rd w' A6 rs ∧ Sns w' rs S ∧ Below w.heap.size w w') := fun w hR => by
    refine (Play_good n xs A c w h0 h1 hR (by omega)).mono fun e w' h => ?_
    obtain ⟨v, u, rs, rfl, hn, ho, hs, hb⟩ := h
    obtain ⟨A6, c6, rfl, -, hR6⟩ := ho.slice
    rw [← hx0, ← hx1] at hn
    rw [← hx0, ← hS] at hs
    have hle : rs.length = xs.length := by rw [hs.1, hS, playS_length]
    exact ⟨v, A6, c6, rs, by rw [hle], hn, hR6, hs.is, hb⟩
  have HSL : Hid (S.length = xs.length) := by show _ = _; rw [hS, playS_length]
  have HSI : Hid (∀ k s, S[k]? = some s → ∃ d, xs[k]? = some d ∧ s.a = d ∧ s = doS (playX x0 (xs.take k)) d) := fun k s h => by rw [hS] at h; exact seen_is hok0 h
  have HFA : Hid (∀ k, k ≤ xs.length → Ok (playX x0 (xs.take k)) ∧ (fireN [] (S.take k)).Perm (playX x0 (xs.take k)).timers) := fun k hk => ⟨play_keeps _ hok0, by rw [hS]; exact fire_at hok0 xs k hk (by rw [ht0])⟩
  have hend : (fireN [] S).Perm x1.timers := by
    have h := (HFA.out xs.length (Nat.le_refl _)).2
    have hSl : S.take xs.length = S := by rw [← HSL.out, List.take_length]
    rw [List.take_length, hSl, ← hx1] at h
    exact h
  obtain ⟨m, hm⟩ : ∃ m : Nat, m = 1000 := ⟨_, rfl⟩
  have hnow := hbd1.nw
  have HCA : Hid (∀ (v : Value) w, NetV w v x1 → Calls Try.prog 40 #[v, .int .i64 1000] w fun e w' => ∃ v u A7 c7, e = .returned (.tuple #[v, u, .slice A7 (fireN [] S).length c7, .int .i64 0]) ∧ NetV w' v (calmX (noCut x1) m) ∧ Below w.heap.size w w') := fun v w hV => by
    have h := Calm_good x1 m v w hV hok1 (by omega) (by omega)
    have e1 : ((m : Nat) : Int) = 1000 := by omega
    rw [e1] at h
    refine h.mono fun e w' h => ?_
    obtain ⟨v, u, t, rfl, a1, a2, a3, a4⟩ := h
    obtain ⟨A7, c7, rfl, -, -⟩ := a3.slice
    rw [fires_all hok1 hbd1 (by omega) hm, ← hend.length_eq]
    exact ⟨v, u, A7, c7, rfl, a1.netV, a4⟩
  have HEL : Hid (x1.timers.length = (fireN [] S).length) := hend.length_eq.symm
  clear hn h0 h1 hx0 hS hx1 hok0 hbd0 ht0 hok1 hbd1 hend hnow hm
  go_enter Try.func11, Try.ntmps11
  go_wp2_with fail
  refine calls_below (HFW.out _ HR.out) ?_
  intro w1 hb1
  go_wp2_with fail
  refine (HP.out _ (HR.out.below hb1)).mono ?_
  rintro e w2 ⟨v2, A6, c6, rs, rfl, hN2, hR2, hS2, hb2⟩
  obtain ⟨AW, cW, AC, cC, AT, cT, rfl, oW, oC, oT⟩ := hN2
  go_upto_block 0 with fail
  obtain ⟨w3, hw3⟩ : ∃ w3, w3 = w2.alloc (.cells #[.int .i64 x1.nodes, .int .i64 x1.now, .int .i64 x1.next, .slice AW x1.way.length cW, .slice AC x1.cuts.length cC, .slice AT x1.timers.length cT] 26) := ⟨_, rfl⟩
  have hb23 : Below w2.heap.size w2 w3 := by rw [hw3]; exact below_alloc (Below.refl _ _) _
  have HZ3 : Hid (w3.heap[w2.heap.size]? = some (.cells #[.int .i64 x1.nodes, .int .i64 x1.now, .int .i64 x1.next, .slice AW x1.way.length cW, .slice AC x1.cuts.length cC, .slice AT x1.timers.length cT] 26 (0, 0))) := by rw [hw3]; exact bl_new _ _
  have HB3 : Hid (Below w.heap.size w w3) := below_trans hb1 (below_trans hb2 hb23)
  have HRL := Lib.hid (hR2.below hb23)
  have HSS := Lib.hid (hS2.below hb23)
  have HNV : Hid (∀ W, Below w3.heap.size w3 W → NetV W (.agg #[.int .i64 x1.nodes, .int .i64 x1.now, .int .i64 x1.next, .slice AW x1.way.length cW, .slice AC x1.cuts.length cC, .slice AT x1.timers.length cT]) x1) := fun W hb => ⟨AW, cW, AC, cC, AT, cT, rfl, (oW.rd.below hb23).below hb, (oC.rd.below hb23).below hb, (oT.rd.below hb23).below hb⟩
  rw [← hw3]
  clear hw3 hb23 hb1 hb2 hR2 hS2 oW oC oT HP HFW HR
  go_wp2
  obtain ⟨g5, hg5⟩ : ∃ g, g = w2.heap.size := ⟨_, rfl⟩
  rw [← hg5] at HZ3 ⊢
  clear hg5
  refine wp_st 228 (by rfl) fun f0 hf0 => ?_
  refine wp_loop (fireI g5 A6 c6 S w3) (fireMu S.length) ⟨f0, rfl, 0, _, Nat.zero_le _, (hf0 5).trans rfl, (hf0 6).trans (by rw [HSL.out]; rfl), (hf0 8).trans rfl, (hf0 9).trans rfl, (Own.nil _ _ _ : Own w3 w3.heap.size 86 (.slice none 0 0) ([] : List Tm)), Below.refl _ _⟩ ?_
  clear hf0 f0
  rintro a wr ⟨f, rfl, k, u8, hk, h5, h6, h8, h9, hO, hB⟩
  by_cases hlk : k < S.length
  · have hls : S.length ≤ 300 := by rw [HSL.out]; exact hlx
    obtain ⟨s, hs⟩ : ∃ s, S[k]? = some s := ⟨S[k], List.getElem?_eq_getElem hlk⟩
    obtain ⟨d, hd, hsa, hsd⟩ := HSI.out k s hs
    obtain ⟨hoX, hpX⟩ := HFA.out k (by rw [← HSL.out]; exact hk)
    have hnx : fireN [] (S.take (k + 1)) = fireS (fireN [] (S.take k)) s := by rw [List.take_add_one, hs]; exact fireN_snoc _ _ _
    have hwl : (fireN [] (S.take k)).length ≤ 64 := by rw [hpX.length_eq]; exact hoX.tms
    by_cases he : s.e = 0
    rotate_left 1
    · exact fire_err g5 A6 c6 S rs _ s w3 wr f _ k u8 hls hlk HRL HSS hs hnx hwl h5 h6 h8 h9 hO hB he
    have hea : (actM (playX x0 (xs.take k)) d).e = 0 := by rw [hsd, doS_e] at he; exact he
    have hsd' := hsd.trans (doS_ok hea)
    by_cases hk8 : s.a.k = 8
    · have hd8 : d.k = 8 := by rw [← hsa]; exact hk8
      obtain ⟨b1, b2, b3⟩ := set_bounds d hd8 hea
      have hnw : s.now = (playX x0 (xs.take k)).now := by rw [hsd']; exact b3
      exact fire_set g5 A6 c6 S rs _ s w3 wr f _ k u8 hls hlk HRL HSS hs hnx hwl h5 h6 h8 h9 hO hB he hk8 (by rw [hnw]; exact hoX.t0) (by rw [hnw]; exact hoX.t1) (by rw [hsa]; exact b1) (by rw [hsa]; exact b2) (fun d _ _ _ _ h => by cases d <;> exact h)
    by_cases hk9 : s.a.k = 9
    · exact fire_stop g5 A6 c6 S rs _ s w3 wr f _ k u8 hls hlk HRL HSS hs hnx hwl h5 h6 h8 h9 hO hB he hk9
    by_cases hk10 : s.a.k = 10
    · have hd10 : d.k = 10 := by rw [← hsa]; exact hk10
      rw [act_tick d hd10] at hea hsd'
      have htk : TickOk (fireN [] (S.take k)) s.now s.ts := by
        rw [hsd']
        exact tick_law2 hoX hpX hea
      exact fire_tick g5 A6 c6 S rs _ s w3 wr f _ k u8 hls hlk HRL HSS hs hnx hwl h5 h6 h8 h9 hO hB he hk10 htk
    · exact fire_else g5 A6 c6 S rs _ s w3 wr f _ k u8 hls hlk HRL HSS hs hnx hwl h5 h6 h8 h9 hO hB he hk8 hk9 hk10
  obtain rfl : k = S.length := by omega
  rw [List.take_length] at hO
  obtain ⟨A8, c8, hu8, -, -⟩ := hO.out.slice
  subst hu8
  obtain ⟨q, hq⟩ : ∃ q, q = (fireN [] S).length := ⟨_, rfl⟩
  rw [← hq] at h8 HCA
  have hel : x1.timers.length = q := HEL.out.trans hq.symm
  have hz := bl_below HZ3.out hB.out
  obtain ⟨⟨k0, k1, k2, k3, k4, k5⟩, -⟩ := blc6 hz
  have hlz := bl_lt hz
  have HZ := Lib.hid hz
  have HEQ := Lib.hid hel
  have HNVR := HNV.out _ hB.out
  have HNR := Lib.hid HNVR
  rw [stf_all, h5, h6, h8, h9]
  clear h5 h6 h8 h9 hz hel hq HNVR hO
  go_wp2_with fail
  refine (HCA.out _ _ HNR.out).mono ?_
  rintro e w4 ⟨v4, u4, A7, c7, rfl, hN4, hb4⟩
  obtain ⟨AW4, cW4, AC4, cC4, AT4, cT4, rfl, -, -, -⟩ := hN4
  have hz4 := bl_below HZ.out hb4
  clear k0 k1 k2 k3 k4 k5 hlz
  have HB4 := Lib.hid (below_trans HB3.out (below_trans hB.out hb4))
  have HZ4 := Lib.hid hz4
  clear hz4 hb4
  go_wp2_with fail
  refine calls_below (sane_any _) ?_
  intro w5 hb5
  have hb45 := below_trans (below_alloc (Below.refl w4.heap.size w4) _) hb5
  obtain ⟨⟨k0, k1, k2, k3, k4, k5⟩, -⟩ := blc6 (bl_below HZ4.out hb45)
  have hlz := bl_lt (bl_below HZ4.out hb45)
  rw [HEQ.out] at k5
  have hbe := below_trans HB4.out hb45
  clear hb5 hb45
  go_wp2
  go_ret
  exact ⟨rfl, hbe⟩
end Go.Proofs.Ythlbmcfliejdiaa
end

section
set_option linter.unusedVariables false
namespace Go.Proofs.Ythlbmcfliejdiaa.netFires
open Go.ChangeShapes Go.WideShapes Go.ChangeAt Go.RowKit
theorem own : ownKnob Try.prog.godebug = none := by kernel_rfl
theorem laidOut : laidOutB Try.prog = true := by kernel_rfl
set_option maxRecDepth 100000 in
theorem lifted (os : Os) (started : os.Started) (H : Type) (enc : TypeId × Value → H) :
    ReturnsInHanded {} Try.checked os 11 .any (Rows.netFiresSpec.pre6 enc Try.prog Try.f11 Rows.netFiresRow.domain false) (Rows.netFiresSpec.post enc Try.prog Try.f11 false true false false) := by
  refine returnsInHanded_of_change_sized (C := Try.checked) own started (by kernel_rfl) Try.func11
    (ChangeSpec.witness6 (enc := enc) (C := Try.checked) false ⟨#[], #[.int .i64 0, .slice none 0 0], []⟩ 8 (by kernel_rfl) (by kernel_rfl) (by kernel_rfl) (by kernel_rfl)) ?_
  intro W base args ds gs before hval0 hW hcnd hsz0 _
  have hval : ∀ (j : Nat) t v, Try.f11.params[j]? = some t → args[j]? = some v → Value.okWide Try.prog W .any base t v := hval0
  have hW' := hW
  obtain ⟨p, q, hA0, hV, rfl, hfz, hnd⟩ := hW
  have hA : DataW.TrodAll enc Try.prog W 0 (fun _ => true) true Try.f11.params.toList args.toList ds p := hA0
  rw [Try.params11] at hA hval
  obtain ⟨v0, vs0, d0, ds0, p0, q0, hargs, rfl, rfl, h0, r0⟩ := trodAll_cons hA
  obtain ⟨v1, vs1, d1, ds1, p1, q1, rfl, rfl, rfl, h1, r1⟩ := trodAll_cons r0
  obtain ⟨rfl, rfl, rfl⟩ := trodAll_nil r1
  obtain rfl : args = #[v0, v1] := by cases args; simp_all
  obtain ⟨rfl, rfl⟩ := trodVars_none hV
  obtain ⟨a0, rfl, rfl, rfl, w0⟩ := open_int Try.underlying3 (hval 0 3 v0 rfl rfl) h0
  have k1 := h1
  have lt1 : ∀ x ∈ p1, x.block < W.heap.size := by obtain ⟨m, hm⟩ := k1; exact DataW.trod_lt m _ _ _ hm
  obtain ⟨A1, xs1, c1, rfl, hR1, hl1⟩ := Acts_open (hval 1 46 v1 rfl rfl) h1
  clear hA0 hval0 hsz0
  refine (NetFires_any a0 xs1 A1 c1 W hR1 hl1).mono fun e W' ⟨he, bel⟩ => ?_
  subst he
  exact ⟨_, rfl, _, _, _, [], _, [], hW', trodAll_mk1 (shut_bool Try.underlying4 _), (trodAll_cons_mk (shut_int Try.underlying3 w0) (trodAll_cons_mk (Below.trod laidOut (by kernel_rfl) (of_decide_eq_true (by kernel_rfl)) k1 bel lt1) trodAll_mk0)), rfl, bel.frame _, fun h => by cases h⟩
theorem over : Rows.netFiresRow.holds Try.pinned (OpenSpec.ofChange Rows.netFiresSpec) :=
  OpenClaim.holds_of_wide 11 Try.f11 rfl rfl rfl rfl rfl rfl rfl ⟨rfl, rfl, rfl, rfl, rfl⟩ rfl rfl rfl rfl rfl (by kernel_rfl) Try.func11 (by kernel_rfl)
    (of_decide_eq_true (by kernel_rfl)) (by unfold Func.isWrapper; first | (rw [if_pos (by decide +kernel)]; kernel_rfl) | (rw [if_neg (by decide +kernel)]; exact ⟨rfl, rfl⟩))
    (fun os started H enc _ => lifted os started H enc)
theorem proved : Rows.NetFiresSaid := over
end Go.Proofs.Ythlbmcfliejdiaa.netFires
namespace Go.Proofs.Ythlbmcfliejdiaa
theorem netFires_holds : Rows.NetFiresSaid := netFires.proved
end Go.Proofs.Ythlbmcfliejdiaa
end
