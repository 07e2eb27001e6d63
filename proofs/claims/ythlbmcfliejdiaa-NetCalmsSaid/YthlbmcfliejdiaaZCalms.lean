/- Plain laws of Calm: what it delivers and what fires, tick by tick. The contract of the iterator that the method ready returns, where a round may also write one block of another kind. (Printed by wip/gen_rdyx.py.). Words for the walk of Calm: append inside a fence; states with marks; what is kept from tick to tick. The contract of Calm. (Printed by wip/gen_clm.py.). The contract of Calm, at whatever network and number. The law NetCalms: it returns true. (Printed by wip/gen_lawm.py.). The given row of NetCalms. (Printed by wip/gen_row.py.). -/
import Derived.Test.YthlbmcfliejdiaaGf
import Derived.Test.YthlbmcfliejdiaaGe
import Derived.Test.YthlbmcfliejdiaaGb
import Derived.Test.YthlbmcfliejdiaaGc
import Derived.Test.YthlbmcfliejdiaaGa
import Derived.RangeFuncNested
import Derived.RangeFuncBound
import Derived.RangeFuncCalls
import Derived.RangeFuncLeaves
import Derived.Shelf.Abstract
import Derived.Shelf.RegionOpen
import Derived.OwnWalkIn
import Derived.TacticsInMore
import Derived.LoopNIn
import Derived.LoopIn
import Derived.Test.YthlbmcfliejdiaaGj
import Derived.Scope
import Derived.WalkMore
import Derived.Test.YthlbmcfliejdiaaGg
import Derived.Test.YthlbmcfliejdiaaGh
import Derived.Deep.DeepCutAuto
import Derived.Deep.CutBlock
import Derived.Deep.CutRange
import Derived.Test.YthlbmcfliejdiaaRows
import Derived.WalkKit
import Derived.ProofKit
import Derived.OpenShut
import Derived.ShutString
import Derived.ChangeOld
import Derived.Below
import Derived.SizedLaws
import Derived.Carry
section
set_option linter.unusedVariables false
set_option linter.unusedSimpArgs false
namespace Go.Proofs.Ythlbmcfliejdiaa
open Go.RowKit

def dueF (now : Int) (xs : List Lt) : List Lt := xs.filter (fun l => decide (l.rd ≤ now))
def ndueF (now : Int) (xs : List Lt) : List Lt := xs.filter (fun l => !decide (l.rd ≤ now))
def noCut (x : Nt) : Nt := { x with cuts := [] }
/-- A tick's deliveries, and the tick. -/
def calm1 (x : Nt) : Nt := (tickM { x with way := ndueF x.now x.way }).x
def calmX (x : Nt) : Nat → Nt
  | 0 => x
  | k + 1 => calm1 (calmX x k)
def calmL (x : Nt) : Nat → List Lt
  | 0 => []
  | k + 1 => calmL x k ++ dueF (calmX x k).now (calmX x k).way
def calmT (x : Nt) : Nat → List Tm
  | 0 => []
  | k + 1 => calmT x k ++ (tickM (calmX x k)).ts
/-- In the middle of a tick: some have been delivered. -/
def Dlv (x0 : Nt) (L0 : List Lt) (y : Nt) (L : List Lt) : Prop :=
  y = { x0 with way := y.way } ∧ ndueF x0.now y.way = ndueF x0.now x0.way ∧ L ++ dueF x0.now y.way = L0 ++ dueF x0.now x0.way ∧ y.way.length ≤ x0.way.length

theorem range_head {n i : Nat} {f : Nat → Bool} {r : List Nat} (h : (List.range n).filter f = i :: r) : i < n ∧ f i = true ∧ ∀ j, j < i → f j = false := by
  have hm : i ∈ (List.range n).filter f := by rw [h]; simp
  obtain ⟨h1, h2⟩ := List.mem_filter.1 hm
  have hp : ((List.range n).filter f).Pairwise (· < ·) := List.Pairwise.filter _ List.pairwise_lt_range
  rw [h] at hp
  refine ⟨List.mem_range.1 h1, h2, fun j hj => ?_⟩
  cases hf : f j
  · rfl
  · have hj2 : j ∈ (List.range n).filter f := List.mem_filter.2 ⟨List.mem_range.2 (by have := List.mem_range.1 h1; omega), hf⟩
    rw [h] at hj2
    rcases List.mem_cons.1 hj2 with e | e
    · omega
    · have := (List.pairwise_cons.1 hp).1 j e; omega
theorem filter_first {α : Type} (p : α → Bool) : ∀ (ws : List α) (i : Nat) (l : α), ws[i]? = some l → p l = true → (∀ j, j < i → ∀ z, ws[j]? = some z → p z = false) →
    ws.filter p = l :: (ws.eraseIdx i).filter p ∧ (ws.eraseIdx i).filter (fun z => !p z) = ws.filter (fun z => !p z)
  | [], i, l, h, _, _ => by simp at h
  | y :: r, 0, l, h, hp, _ => by
    have : y = l := by simpa using h
    subst this
    simp [hp]
  | y :: r, i + 1, l, h, hp, hj => by
    obtain ⟨a, b⟩ := filter_first p r i l (by simpa using h) hp (fun j hlt z hz => hj (j + 1) (by omega) z (by simpa using hz))
    have hy : p y = false := hj 0 (by omega) y (by simp)
    rw [List.eraseIdx_cons_succ]
    constructor
    · rw [List.filter_cons_of_neg (by simp [hy]), List.filter_cons_of_neg (by simp [hy])]; exact a
    · rw [List.filter_cons_of_pos (by simp [hy]), List.filter_cons_of_pos (by simp [hy]), b]
theorem canB_nocut {x : Nt} (h : x.cuts = []) (l : Lt) : canB x l = decide (l.rd ≤ x.now) := by unfold canB; rw [h]; simp
/-- Nothing can be delivered: all that is due is gone. -/
theorem rdy_none {y : Nt} (hc : y.cuts = []) (h : rdyF y = []) : dueF y.now y.way = [] := by
  rw [dueF, List.filter_eq_nil_iff]
  intro l hl
  obtain ⟨i, hi, rfl⟩ := List.getElem_of_mem hl
  intro hd
  have : i ∈ rdyF y := (mem_rdy y i).2 ⟨_, List.getElem?_eq_getElem hi, by rw [canB_nocut hc]; exact hd⟩
  rw [h] at this
  simp at this
theorem rdy_some {y : Nt} (hc : y.cuts = []) {i : Nat} {r : List Nat} (h : rdyF y = i :: r) :
    ∃ l, y.way[i]? = some l ∧ dueF y.now y.way = l :: dueF y.now (y.way.eraseIdx i) ∧ ndueF y.now (y.way.eraseIdx i) = ndueF y.now y.way ∧ deliverM y i = ⟨{ y with way := y.way.eraseIdx i }, 0, l, [], 0⟩ := by
  obtain ⟨h1, h2, h3⟩ := range_head h
  obtain ⟨l, hl, hcan⟩ := (mem_rdy y i).1 (by rw [h]; simp)
  have hd : decide (l.rd ≤ y.now) = true := by rw [← canB_nocut hc]; exact hcan
  obtain ⟨a, b⟩ := filter_first (fun l : Lt => decide (l.rd ≤ y.now)) y.way i l hl hd (fun j hj z hz => by
    have := h3 j hj
    unfold canI at this
    rw [hz] at this
    simp only at this
    rw [← canB_nocut hc]; exact this)
  refine ⟨l, hl, a, b, ?_⟩
  unfold deliverM
  rw [if_neg (by simp [hasB]; omega), Int.toNat_natCast, hl]
  simp [hcan]
theorem deliver_no (y : Nt) : deliverM y (-1) = errR 4 := by unfold deliverM; rw [if_pos (by simp [hasB])]
theorem dlv_start (x : Nt) (L : List Lt) : Dlv x L x L := ⟨rfl, rfl, rfl, Nat.le_refl _⟩
theorem dlv_step {x0 : Nt} {L0 : List Lt} {y : Nt} {L : List Lt} (h : Dlv x0 L0 y L) (hc : x0.cuts = []) {i : Nat} {r : List Nat} (hr : rdyF y = i :: r) :
    ∃ l, deliverM y i = ⟨{ y with way := y.way.eraseIdx i }, 0, l, [], 0⟩ ∧ Dlv x0 L0 { y with way := y.way.eraseIdx i } (L ++ [l]) ∧ (y.way.eraseIdx i).length + 1 = y.way.length := by
  obtain ⟨h1, h2, h3, h4⟩ := h
  have hn : y.now = x0.now := by rw [h1]
  have hcy : y.cuts = [] := by rw [h1]; exact hc
  obtain ⟨l, a, b, c, d⟩ := rdy_some hcy hr
  rw [hn] at b c
  have hi := (List.getElem?_eq_some_iff.1 a).1
  have hl : (y.way.eraseIdx i).length + 1 = y.way.length := by rw [List.length_eraseIdx, if_pos hi]; omega
  refine ⟨l, d, ⟨by rw [h1], by show ndueF _ (y.way.eraseIdx i) = _; rw [c, h2], ?_, by show (y.way.eraseIdx i).length ≤ _; omega⟩, hl⟩
  show (L ++ [l]) ++ dueF _ (y.way.eraseIdx i) = _
  rw [← h3, b, List.append_assoc, List.singleton_append]
theorem ndue_all {now : Int} {ws : List Lt} (h : dueF now ws = []) : ndueF now ws = ws := by
  unfold ndueF
  rw [List.filter_eq_self]
  intro l hl
  unfold dueF at h
  have := List.filter_eq_nil_iff.1 h l hl
  simpa using this
theorem dlv_end {x0 : Nt} {L0 : List Lt} {y : Nt} {L : List Lt} (h : Dlv x0 L0 y L) (hc : x0.cuts = []) (hr : rdyF y = []) : y = { x0 with way := ndueF x0.now x0.way } ∧ L = L0 ++ dueF x0.now x0.way := by
  obtain ⟨h1, h2, h3, h4⟩ := h
  have hn : y.now = x0.now := by rw [h1]
  have hcy : y.cuts = [] := by rw [h1]; exact hc
  have hd := rdy_none hcy hr
  rw [hn] at hd
  have hw : y.way = ndueF x0.now x0.way := by rw [← h2, ndue_all hd]
  constructor
  · rw [← hw]; exact h1
  · rw [hd, List.append_nil] at h3; exact h3
theorem tick_ways (x : Nt) (ws : List Lt) : (tickM { x with way := ws }).ts = (tickM x).ts ∧ (tickM { x with way := ws }).e = (tickM x).e := by
  unfold tickM
  by_cases h : x.now = 1099511627776 <;> simp [h]

/-! Well-formed all along. -/
theorem sub_keeps {x : Nt} (h : Ok x) {ws : List Lt} (hs : ws.Sublist x.way) : Ok { x with way := ws } :=
  ⟨h.n1, h.n2, h.t0, h.t1, h.s0, h.s1, Nat.le_trans hs.length_le h.way, h.tms, h.risC, h.risT, fun l hl => h.lts l (hs.subset hl), h.lks, h.tmo⟩
theorem nocut_ok {x : Nt} (h : Ok x) : Ok (noCut x) := ⟨h.n1, h.n2, h.t0, h.t1, h.s0, h.s1, h.way, h.tms, rfl, h.risT, h.lts, by intro c hc; exact absurd hc (by simp [noCut]), h.tmo⟩
theorem dlv_ok {x0 : Nt} {L0 : List Lt} {y : Nt} {L : List Lt} (h : Ok x0) (hd : y = { x0 with way := y.way }) (hs : y.way.Sublist x0.way) : Ok y := by rw [hd]; exact sub_keeps h hs
theorem calm_at {x : Nt} (h : Ok x) : ∀ (k : Nat), x.now + k ≤ 1099511627776 → Ok (calmX x k) ∧ (calmX x k).now = x.now + k ∧ (calmX x k).cuts = x.cuts ∧ (calmX x k).nodes = x.nodes ∧ (calmX x k).next = x.next
  | 0, _ => ⟨h, by show x.now = _; simp, rfl, rfl, rfl⟩
  | k + 1, hk => by
    obtain ⟨a, b, c, d, e⟩ := calm_at h k (by omega)
    have hn : ¬ (calmX x k).now = 1099511627776 := by omega
    have he : (tickM { calmX x k with way := ndueF (calmX x k).now (calmX x k).way }).e = 0 := by unfold tickM; rw [if_neg (by exact hn)]
    have hx : (calmX x (k + 1)) = { calmX x k with now := (calmX x k).now + 1, way := ndueF (calmX x k).now (calmX x k).way, timers := (calmX x k).timers.filter (fun t => decide (t.t ≠ (calmX x k).now + 1)) } := by
      show calm1 _ = _
      unfold calm1 tickM; rw [if_neg (by exact hn)]
    refine ⟨tick_keeps (sub_keeps a List.filter_sublist) he, ?_, ?_, ?_, ?_⟩
    · rw [hx]; simp only; omega
    · rw [hx]; exact c
    · rw [hx]; exact d
    · rw [hx]; exact e
theorem calm_succ {x : Nt} (k : Nat) (hn : ¬ (calmX x k).now = 1099511627776) :
    (calmX x (k + 1)) = { calmX x k with now := (calmX x k).now + 1, way := ndueF (calmX x k).now (calmX x k).way, timers := (calmX x k).timers.filter (fun t => decide (t.t ≠ (calmX x k).now + 1)) } ∧
    calmT x (k + 1) = calmT x k ++ (calmX x k).timers.filter (fun t => decide (t.t = (calmX x k).now + 1)) := by
  constructor
  · show calm1 _ = _
    unfold calm1 tickM; rw [if_neg (by exact hn)]
  · show calmT x k ++ _ = _
    unfold tickM; rw [if_neg hn]

/-! What is left, what went. -/
def stayB (x : Nt) (n : Nat) (l : Lt) : Bool := decide (n = 0) || decide (x.now + n ≤ l.rd)
theorem calm_way {x : Nt} (h : Ok x) : ∀ (k : Nat), x.now + k ≤ 1099511627776 → (calmX x k).way = x.way.filter (stayB x k)
  | 0, _ => by
    show x.way = _
    rw [List.filter_eq_self.2]
    intro l _; simp [stayB]
  | k + 1, hk => by
    have hi := calm_way h k (by omega)
    obtain ⟨a, b, -⟩ := calm_at h k (by omega)
    rw [(calm_succ k (by omega)).1]
    show ndueF _ _ = _
    rw [hi, b]
    unfold ndueF
    rw [List.filter_filter]
    congr 1
    funext l
    unfold stayB
    by_cases h0 : k = 0
    · subst h0; simp; rw [Bool.eq_iff_iff]; simp; omega
    · rw [Bool.eq_iff_iff]; simp [h0]; omega
theorem filter_perm {α : Type} (p : α → Bool) : ∀ (xs : List α), (xs.filter p ++ xs.filter (fun z => !p z)).Perm xs
  | [] => List.Perm.refl _
  | y :: r => by
    have ih := filter_perm p r
    cases hp : p y
    · rw [List.filter_cons_of_neg (by simp [hp]), List.filter_cons_of_pos (by simp [hp])]
      exact (List.perm_middle).trans (ih.cons y)
    · rw [List.filter_cons_of_pos hp, List.filter_cons_of_neg (by simp [hp])]
      exact ih.cons y
theorem calm_perm {x : Nt} (h : Ok x) : ∀ (k : Nat), x.now + k ≤ 1099511627776 → (calmL x k ++ (calmX x k).way).Perm x.way
  | 0, _ => List.Perm.refl _
  | k + 1, hk => by
    have hi := calm_perm h k (by omega)
    obtain ⟨a, b, -⟩ := calm_at h k (by omega)
    rw [(calm_succ k (by omega)).1]
    show ((calmL x k ++ dueF _ _) ++ ndueF _ _).Perm _
    rw [List.append_assoc]
    exact (List.Perm.append_left _ (filter_perm _ _)).trans hi
theorem calm_tperm {x : Nt} (h : Ok x) : ∀ (k : Nat), x.now + k ≤ 1099511627776 → (calmT x k ++ (calmX x k).timers).Perm x.timers ∧ (calmX x k).timers = x.timers.filter (fun t => decide (x.now + k < t.t))
  | 0, _ => ⟨List.Perm.refl _, by
      show x.timers = _
      rw [List.filter_eq_self.2]
      intro t ht
      have := later h ht
      simpa using this⟩
  | k + 1, hk => by
    obtain ⟨hi, hf⟩ := calm_tperm h k (by omega)
    obtain ⟨a, b, -⟩ := calm_at h k (by omega)
    obtain ⟨e1, e2⟩ := calm_succ (x := x) k (by omega)
    rw [e1, e2]
    constructor
    · show ((calmT x k ++ _) ++ List.filter _ _).Perm _
      rw [List.append_assoc]
      refine (List.Perm.append_left _ ?_).trans hi
      have := filter_perm (fun t : Tm => decide (t.t = (calmX x k).now + 1)) (calmX x k).timers
      have e : (fun z : Tm => !decide (z.t = (calmX x k).now + 1)) = (fun t => decide (t.t ≠ (calmX x k).now + 1)) := by funext t; simp
      rw [e] at this
      exact this
    · show List.filter _ (calmX x k).timers = _
      rw [hf, List.filter_filter, b]
      congr 1
      funext t
      rw [Bool.eq_iff_iff]; simp; omega
/-- The letters that went: as many of each as there were. -/
theorem calm_count {x : Nt} (h : Ok x) (n : Nat) (hn : x.now + n ≤ 1099511627776) (l : Lt) (hl : stayB x n l = false) : (calmL x n).count l = x.way.count l := by
  have hp := (calm_perm h n hn).count_eq l
  rw [List.count_append, calm_way h n hn] at hp
  have h0 : (x.way.filter (stayB x n)).count l = 0 := by
    rw [List.count_eq_zero]
    intro hm
    have := (List.mem_filter.1 hm).2
    rw [hl] at this; cases this
  omega
theorem calm_left {x : Nt} (h : Ok x) (n : Nat) (hn : x.now + n ≤ 1099511627776) : (calmX x n).way.length = (x.way.filter (stayB x n)).length ∧ (calmL x n).length = (x.way.filter (fun l => !stayB x n l)).length := by
  have h1 := (calm_perm h n hn).length_eq
  have h2 := (filter_perm (stayB x n) x.way).length_eq
  rw [List.length_append] at h1 h2
  have h3 : (calmX x n).way.length = (x.way.filter (stayB x n)).length := by rw [calm_way h n hn]
  exact ⟨h3, by omega⟩

/-! Bounds of a network that acts lead to. -/
structure Bd (k : Nat) (x : Nt) : Prop where
  nw : x.now ≤ k
  rd : ∀ l ∈ x.way, l.rd ≤ x.now + 1000
  tm : ∀ t ∈ x.timers, t.t ≤ x.now + 1000
theorem bd_new (n : Int) : Bd 0 ⟨n, 0, 0, [], [], []⟩ := ⟨by simp, by simp, by simp⟩
theorem Bd.up {k : Nat} {x : Nt} (h : Bd k x) : Bd (k + 1) x := ⟨by have := h.nw; omega, h.rd, h.tm⟩
theorem bd_act {k : Nat} {x : Nt} (h : Bd k x) (a : Ac) (he : (actM x a).e = 0) : Bd (k + 1) (actM x a).x := by
  unfold actM at he ⊢
  split at he
  · rw [if_pos ‹_›]
    unfold sendM at he ⊢
    split at he
    · simp [errR] at he
    rename_i h1
    split at he
    · simp [errR] at he
    rename_i h2
    split at he
    · simp [errR] at he
    rename_i h3
    rw [if_neg h1, if_neg h2, if_neg h3]
    refine ⟨h.up.nw, fun l hl => ?_, h.tm⟩
    rcases List.mem_append.1 hl with hl | hl
    · exact h.rd l hl
    · obtain rfl := List.mem_singleton.1 hl
      show x.now ≤ x.now + 1000; omega
  rename_i n1; rw [if_neg n1]
  split at he
  · rw [if_pos ‹_›]
    unfold deliverM at he ⊢
    split at he
    · simp [errR] at he
    rename_i h1
    rw [if_neg h1]
    split at he
    · simp [errR] at he
    rename_i l hl
    split at he
    · simp [errR] at he
    rename_i h2
    simp only [hl, if_neg h2]
    exact ⟨h.up.nw, fun l hl => h.rd l (List.mem_of_mem_eraseIdx hl), h.tm⟩
  rename_i n2; rw [if_neg n2]
  split at he
  · rw [if_pos ‹_›]
    unfold loseM at he ⊢
    split at he
    · simp [errR] at he
    rename_i h1
    rw [if_neg h1]
    split at he
    · simp [errR] at he
    rename_i l hl
    simp only [hl]
    exact ⟨h.up.nw, fun l hl => h.rd l (List.mem_of_mem_eraseIdx hl), h.tm⟩
  rename_i n3; rw [if_neg n3]
  split at he
  · rw [if_pos ‹_›]
    unfold doubleM at he ⊢
    split at he
    · simp [errR] at he
    rename_i h1
    split at he
    · simp [errR] at he
    rename_i h2
    rw [if_neg h1, if_neg h2]
    split at he
    · simp [errR] at he
    rename_i l hl
    simp only [hl]
    refine ⟨h.up.nw, fun m hm => ?_, h.tm⟩
    rcases List.mem_append.1 hm with hm | hm
    · exact h.rd m hm
    · obtain rfl := List.mem_singleton.1 hm
      exact h.rd m (mem_at hl)
  rename_i n4; rw [if_neg n4]
  split at he
  · rw [if_pos ‹_›]
    unfold delayM at he ⊢
    split at he
    · simp [errR] at he
    rename_i h1
    split at he
    · simp [errR] at he
    rename_i h2
    rw [if_neg h1, if_neg h2]
    split at he
    · simp [errR] at he
    rename_i l hl
    simp only [hl]
    refine ⟨h.up.nw, fun m hm => ?_, h.tm⟩
    rcases List.mem_or_eq_of_mem_set hm with hm | rfl
    · exact h.rd m hm
    · show x.now + a.b ≤ x.now + 1000; omega
  rename_i n5; rw [if_neg n5]
  split at he
  · rw [if_pos ‹_›]
    unfold cutM at he ⊢
    split at he
    · simp [errR] at he
    rename_i h1
    split at he
    · simp [errR] at he
    rename_i h2
    rw [if_neg h1, if_neg h2]; exact ⟨h.up.nw, h.rd, h.tm⟩
  rename_i n6; rw [if_neg n6]
  split at he
  · rw [if_pos ‹_›]
    unfold healM at he ⊢
    split at he
    · simp [errR] at he
    rename_i h1
    split at he
    · rename_i h2
      rw [if_neg h1, if_pos h2]; exact ⟨h.up.nw, h.rd, h.tm⟩
    · simp [errR] at he
  rename_i n7; rw [if_neg n7]
  split at he
  · rw [if_pos ‹_›]
    unfold setM at he ⊢
    split at he
    · simp [errR] at he
    rename_i h1
    split at he
    · simp [errR] at he
    rename_i h2
    rw [if_neg h1, if_neg h2]
    refine ⟨h.up.nw, h.rd, fun t ht => ?_⟩
    rcases (mem_insS _ _ _ _).1 ht with rfl | ht
    · simp only [setB, Bool.not_eq_false, Bool.and_eq_true, decide_eq_true_eq] at h1
      show x.now + a.n ≤ x.now + 1000; omega
    · exact h.tm t (List.mem_filter.1 ht).1
  rename_i n8; rw [if_neg n8]
  split at he
  · rw [if_pos ‹_›]
    unfold stopM at he ⊢
    split at he
    · simp [errR] at he
    rename_i h1
    split at he
    · simp [errR] at he
    rename_i h2
    rw [if_neg h1, if_neg h2]; exact ⟨h.up.nw, h.rd, fun t ht => h.tm t (List.mem_filter.1 ht).1⟩
  rename_i n9; rw [if_neg n9]
  split at he
  · rw [if_pos ‹_›]
    unfold tickM at he ⊢
    split at he
    · simp [errR] at he
    rename_i h1
    rw [if_neg h1]
    have hn := h.nw
    refine ⟨by show x.now + 1 ≤ _; omega, fun l hl => ?_, fun t ht => ?_⟩
    · have := h.rd l hl
      show l.rd ≤ x.now + 1 + 1000; omega
    · have := h.tm t (List.mem_filter.1 ht).1
      show t.t ≤ x.now + 1 + 1000; omega
  · simp [errR] at he
theorem bd_do {k : Nat} {x : Nt} (h : Bd k x) (a : Ac) : Bd (k + 1) (doX x a) := by
  unfold doX
  split
  · exact bd_act h a ‹_›
  · exact h.up
theorem bd_play : ∀ {x : Nt} (l : List Ac) (k : Nat), Ok x → Bd k x → Bd (k + l.length) (playX x l)
  | x, [], k, h, hb => hb
  | x, a :: l, k, h, hb => by
    unfold playX; rw [doXR_ok h]
    have := bd_play l (k + 1) (do_keeps h a) (bd_do hb a)
    rw [List.length_cons, show k + (l.length + 1) = k + 1 + l.length by omega]
    exact this
/-- Behind a calm of as many ticks as a letter can be kept back, and one more, there is none. -/
theorem calm_gone {x : Nt} {k m : Nat} (h : Ok x) (hb : Bd k x) (hk : k ≤ 1000) (hm : m = 1000) : (calmX (noCut (calmX (noCut x) m)) 1).way = [] := by
  have hn := hb.nw
  have h0 := nocut_ok h
  obtain ⟨a, b, -⟩ := calm_at h0 m (by show x.now + _ ≤ _; omega)
  have hbw : (calmX (noCut x) m).now = x.now + m := b
  have hcw := calm_way h0 m (by show x.now + _ ≤ _; omega)
  obtain ⟨z, hz⟩ : ∃ z, z = calmX (noCut x) m := ⟨_, rfl⟩
  rw [← hz] at a hbw hcw ⊢
  have h1 := nocut_ok a
  rw [calm_way h1 1 (by show z.now + _ ≤ _; omega), List.filter_eq_nil_iff]
  intro l hl
  have hl' : l ∈ z.way := hl
  rw [hcw] at hl'
  have h2 := hb.rd l (List.mem_filter.1 hl').1
  have h3 : (noCut z).now = x.now + m := hbw
  simp only [stayB, h3, Bool.or_eq_true, decide_eq_true_eq]
  omega
end Go.Proofs.Ythlbmcfliejdiaa
end

section
set_option linter.unusedVariables false
set_option linter.unusedSimpArgs false
namespace Go.Proofs.Ythlbmcfliejdiaa
open Go.RowKit Go.Shelf
attribute [local go_sem] Oper.semAt_some

/-- What lay below n lies as it lay, but for block c. -/
structure BelowX (c n : Nat) (w W : World) : Prop where
  size : w.heap.size ≤ W.heap.size
  blocks : ∀ i, i < n → i ≠ c → W.heap[i]? = w.heap[i]?
theorem BelowX.of {c n : Nat} {w W : World} (h : Below n w W) : BelowX c n w W := ⟨h.size, fun i hi _ => h.block i hi⟩
theorem BelowX.drew {c n : Nat} {w W : World} (h : BelowX c n w W) : BelowX c n w W.drew := ⟨h.size, h.blocks⟩
theorem BelowX.trans {c n : Nat} {w W V : World} (h : BelowX c n w W) (k : BelowX c n W V) : BelowX c n w V := ⟨Nat.le_trans h.size k.size, fun i hi hc => (k.blocks i hi hc).trans (h.blocks i hi hc)⟩
theorem BelowX.block {c : Nat} {w W : World} {g : Nat} {o : Obj} (h : BelowX c w.heap.size w W) (hg : g ≠ c) (ho : w.heap[g]? = some o) : W.heap[g]? = some o := (h.blocks g (bl_lt ho) hg).trans ho
theorem BelowX.cell {c : Nat} {w W : World} {a : Addr} {v : Value} (h : BelowX c w.heap.size w W) (hg : a.block ≠ c) (ho : w.cell? a = some v) : W.cell? a = some v :=
  (World.cell?_of_block (h.blocks a.block (World.block_lt_of_cell? w a ho) hg)).trans ho
theorem Own.belowX {α : Type} [Enc α] {c : Nat} {w W : World} {B : Nat} {e : TypeId} {v : Value} {xs : List α} (h : Own w B e v xs) (hb : BelowX c w.heap.size w W) (hv : v.ownBlock ≠ some c) : Own W B e v xs := by
  refine ⟨h.1, ?_⟩
  rcases h.2 with hn | ⟨g, cap, cur, rfl, hg, hh, rest⟩
  · exact .inl hn
  · exact .inr ⟨g, cap, cur, rfl, hg, hb.block (fun e => hv (by rw [e]; rfl)) hh, rest⟩
theorem rdy_mem {x : Nt} {k : Nat} (h : canI x k = true) (hk : k < x.way.length) : k ∈ rdyF x := List.mem_filter.2 ⟨List.mem_range.2 hk, h⟩
def KptX (c n : Nat) (A B : World) : Prop := BelowX c n A B ∧ KeepsWalks A B
theorem kptx_t {c n : Nat} {A B C : World} (h : KptX c n A B) (k : KptX c n B C) : KptX c n A C := ⟨h.1.trans k.1, walksK_t h.2 k.2⟩
theorem kptx_b {c m : Nat} {w : World} (hn : m ≤ w.heap.size) (W : World) (l : Nat) (o o' : Obj) (hl : w.heap.size ≤ l) (h : W.heap[l]? = some o) (hc : o.isCells = false) (hw : o.isWalk = false) : KptX c m W (W.putObj l o') :=
  ⟨BelowX.of (belowK_b hn W l o o' hl h hc hw), walksK_b W l o o' hl h hc hw⟩

set_option maxHeartbeats 4000000 in
set_option maxRecDepth 100000 in
theorem ready1_inX (n l bx g B cx : Nat) (x : Nt) (w : World) (hbx : w.cell? ⟨bx, 0, none⟩ = some (.pointer (some ⟨g, 0, none⟩))) (hS : St w B g x) (hcb : bx ≠ cx) (hcg : g ≠ cx) (hcr : ∀ j v, w.cell? ⟨g, j, none⟩ = some v → v.ownBlock ≠ some cx) (hnd : (x.cuts.map prL).Nodup) (hlw : x.way.length ≤ 10000000) (hlc : x.cuts.length ≤ 10000000)
    (J Jx : List Nat → World → Prop) (W : World) (hb0 : Below w.heap.size w W) (hJ : AbidesFrom W.heap.size J)
    (hY : ∀ pre (k : Nat) W1, J pre W1 → pre.length < (rdyF x).length → k ∈ rdyF x → YieldAt Fence.wide (n - 1) Try.prog l #[.int .i64 (k : Int)] W1 fun e W' =>
      (e = .returned (.bool true) ∧ J (pre ++ [k]) W' ∧ KptX cx w.heap.size W1 W') ∨ (e = .returned (.bool false) ∧ Jx (pre ++ [k]) W')) (h0 : J [] W) :
    CallsIn Fence.wide n Try.prog 87 #[.func (.yield l) #[] #[], .pointer (some ⟨bx, 0, none⟩)] W fun e W' => (∃ v, e = .returned v) ∧ ((∃ xs, xs = rdyF x ∧ J xs W') ∨ (∃ pre, pre <+: rdyF x ∧ Jx pre W')) := by
  have HBXX : Hid (∀ V, BelowX cx w.heap.size w V → V.cell? ⟨bx, 0, none⟩ = some (.pointer (some ⟨g, 0, none⟩))) := fun V h => h.cell hcb hbx
  have HBX := Lib.hid hbx
  have HS := Lib.hid hS
  have HND := Lib.hid hnd
  have HJ := Lib.hid hJ
  have HY := Lib.hid hY
  have HB0 := Lib.hid hb0
  have H0 := Lib.hid h0
  have hbW := cell_below hb0 hbx
  obtain ⟨AW, cW, AC, cC, AT, cT, hg, hB, oW, oC, oT⟩ := hS.open
  have HGX : Hid (∀ V, BelowX cx w.heap.size w V → V.heap[g]? = some (.cells #[.int .i64 x.nodes, .int .i64 x.now, .int .i64 x.next, .slice AW x.way.length cW, .slice AC x.cuts.length cC, .slice AT x.timers.length cT] 125 (0, 0))) := fun V h => h.block hcg hg
  have hcW := hcr 3 _ (by rw [bl_cell hg 3]; rfl)
  have HG := Lib.hid hg
  have hgW := bl_below hg hb0
  have k4 := bl_cell hgW 4
  have k3 := bl_cell hgW 3
  simp at k4 k3
  have hlt := bl_lt hgW
  have hltb := World.block_lt_of_cell? W _ hbW
  simp only at hltb
  have HRC : Hid (Rd w AC x.cuts) := by
    obtain ⟨A, c, e, _, h⟩ := oC.slice
    cases e
    exact h
  have HRW : Hid (Rd w AW x.way) := by
    obtain ⟨A, c, e, _, h⟩ := oW.slice
    cases e
    exact h
  have HRC2 : Hid (Rd W AC x.cuts) := HRC.out.below hb0
  have HRWX : Hid (∀ V, BelowX cx w.heap.size w V → Rd V AW x.way) := fun V h => (oW.belowX h hcW).rd
  clear hbx hS hnd hJ hY hb0 h0 hg hgW oW oC oT HRC hcW hcr
  refine callsIn_of_wp Try.func87 rfl trivial ?_ rfl
  simp only [Try.ntmps87, List.size_toArray, List.length_cons, List.length_nil, Nat.reduceAdd, Nat.reduceSub, Array.replicate_succ, Array.replicate_zero, List.push_toArray, List.append_toArray, List.nil_append, List.cons_append]
  have hmm := @run_makeMap Try.prog
  gi_wp2
  have hB1 : Hid (Below W.heap.size W (W.alloc (.map #[] 0))) := below_alloc (Below.refl _ _) _
  have hS1 : Hid (IsSet (W.alloc (.map #[] 0)) W.heap.size []) := IsSet.new W
  have hJ1 : Hid (J [] (W.alloc (.map #[] 0))) := ab_below HJ.out H0.out (below_alloc (Below.refl _ _) _)
  gi_loopw [15] (fun i wr => ∃ k : Nat, k ≤ x.cuts.length ∧ i = .int .i64 (k : Int) ∧ Hid (IsSet wr W.heap.size ((x.cuts.take k).map prL)) ∧ Hid (Below W.heap.size W wr) ∧ Hid (J [] wr)) (fun i _ => x.cuts.length - (intOf i).toNat)
  case atStart => exact ⟨0, Nat.zero_le _, rfl, hS1.out, hB1.out, hJ1.out⟩
  case round =>
    clear hS1 hB1 hJ1 k4 k3 hbW
    obtain ⟨k, hk, rfl, hS, hB1, hJ1⟩ := hrel
    by_cases hkl : k < x.cuts.length
    · obtain ⟨b, off, c, rfl, hx, c0, c1⟩ := (HRC2.out.below hB1.out).lk k hkl
      have hbl := World.block_lt_of_cell? wr _ c0
      simp only at hbl
      have hset : Hid (IsSet (wr.alloc (.cells #[.int .i64 c.a, .int .i64 c.b] 100)) W.heap.size ((x.cuts.take k).map prL)) := hS.out.alloc _
      have hnm : (c.a, c.b) ∉ (x.cuts.take k).map prL := by
        have h1 := HND.out
        obtain ⟨hkx, hce⟩ := List.getElem?_eq_some_iff.1 hx.out
        rw [← List.take_append_drop k x.cuts, List.map_append, List.nodup_append] at h1
        intro hm
        refine h1.2.2 _ hm _ ?_ rfl
        rw [List.drop_eq_getElem_cons hkx, hce]
        exact List.mem_cons_self ..
      obtain ⟨w3, hu, hs3, hg3⟩ := link_insert _ W.heap.size _ c.a c.b hset.out hnm
      have HS3 := Lib.hid hs3
      have HG3 := Lib.hid hg3
      clear hnm hs3 hg3
      have hltm : W.heap.size < wr.heap.size := hS.out.lt
      gi_wp2
      go_roundw
      case rel =>
        refine ⟨k + 1, by omega, by go_num, ?_, ?_, ?_⟩
        · show IsSet _ _ _
          have h2 : (x.cuts.take (k + 1)).map prL = (x.cuts.take k).map prL ++ [(c.a, c.b)] := by rw [List.take_add_one, hx.out]; simp [prL]
          rw [h2]; exact HS3.out
        · show Below _ _ _
          have h3 := below_alloc hB1.out (.cells #[.int .i64 c.a, .int .i64 c.b] 100)
          exact h3.grown HG3.out h3.size (fun j e => by cases e; exact Nat.le_refl _)
        · show J [] _
          have h4 := ab_below HJ.out hJ1.out (below_alloc (Below.refl _ wr) (.cells #[.int .i64 c.a, .int .i64 c.b] 100))
          refine HJ.out _ _ _ _ h4 HG3.out (fun r e => ?_)
          cases e
          obtain ⟨es, clock, hb, -⟩ := hset.out
          exact ⟨Nat.le_refl _, _, hb, rfl⟩
      case measure => simp [intOf]; omega
    · obtain rfl : k = x.cuts.length := by omega
      rw [List.take_length] at hS
      have hbr := cell_below hB1.out (cell_below HB0.out HBX.out)
      have hbw : w.heap.size ≤ W.heap.size := HB0.out.size
      have hBr : Hid (BelowX cx w.heap.size w wr) := BelowX.of (HB0.out.trans (hB1.out.mono hbw))
      have k3 := bl_cell (HGX.out _ hBr.out) 3
      simp at k3
      have hl2 := bl_lt (HGX.out _ hBr.out)
      clear HRC2
      gi_wp2
      gi_loopw [28] (fun i wq => ∃ k : Nat, k ≤ x.way.length ∧ i = .int .i64 (k : Int) ∧ Hid (IsSet wq W.heap.size (x.cuts.map prL)) ∧ Hid (BelowX cx w.heap.size w wq) ∧ Hid (J (rdyTo x k) wq)) (fun i _ => x.way.length - (intOf i).toNat)
      case atStart => exact ⟨0, Nat.zero_le _, rfl, hS.out, hBr.out, hJ1.out⟩
      case round =>
        clear hBr k3 hl2 hS hB1 hJ1 hbr
        obtain ⟨k, hk, rfl, hS, hBq, hJq⟩ := hrel
        by_cases hkl : k < x.way.length
        · obtain ⟨b, off, lt, rfl, hx, c0, c1, c2, c3, c4⟩ := (HRWX.out _ hBq.out).lt k hkl
          have hbl := World.block_lt_of_cell? wr _ c0
          simp only at hbl
          gi_wp2
          obtain ⟨Wl, hWl⟩ : ∃ Wl, Wl = wr.alloc (.cells #[.int .i64 lt.id, .int .i64 lt.fr, .int .i64 lt.to, .int .i64 lt.rd, .string lt.data] 33) := ⟨_, rfl⟩
          rw [← hWl]
          have hBl : Hid (Below wr.heap.size wr Wl) := by rw [hWl]; exact below_alloc (Below.refl _ _) _
          have hlb : Wl.heap[wr.heap.size]? = some (.cells #[.int .i64 lt.id, .int .i64 lt.fr, .int .i64 lt.to, .int .i64 lt.rd, .string lt.data] 33 (0, 0)) := by rw [hWl]; exact bl_new _ _
          have hBwl : Hid (BelowX cx w.heap.size w Wl) := hBq.out.trans (BelowX.of (hBl.out.mono hBq.out.size))
          have hSl : Hid (IsSet Wl W.heap.size (x.cuts.map prL)) := hS.out.below hBl.out
          have hJl : Hid (J (rdyTo x k) Wl) := ab_below HJ.out hJq.out hBl.out
          have e1 := bl_cell hlb 1
          have e2 := bl_cell hlb 2
          have e3 := bl_cell hlb 3
          simp at e1 e2 e3
          have hll := bl_lt hlb
          have kb := HBXX.out _ hBwl.out
          have kbl := World.block_lt_of_cell? Wl _ kb
          simp only at kbl
          have kg := bl_cell (HGX.out _ hBwl.out) 1
          simp at kg
          have kgl := bl_lt (HGX.out _ hBwl.out)
          generalize wr.heap.size = bx2 at *
          clear hWl hlb c0 c1 c2 c3 c4 hbl
          by_cases hrd : lt.rd ≤ x.now
          · have hd : decide (lt.rd ≤ x.now) = true := decide_eq_true hrd
            have HRD := Lib.hid hrd
            clear hrd
            refine wpIn_mix [(0, true), (1, true), (2, true), (3, true), (4, true), (5, true), (6, true), (7, true), (8, true), (9, true), (10, true), (11, true), (12, true), (13, true), (14, false), (15, true), (16, true), (17, true), (18, true), (19, true), (20, true)] 21
              (fun w' => Below Wl.heap.size Wl w')
              (by kernel_rfl) (by kernel_rfl) (by kernel_rfl) (by kernel_rfl) (by kernel_rfl) (fun d _ _ _ _ h => by cases d <;> exact h) (Below.refl _ _).drew ?_
            simp only [pick, List.map_cons, List.map_nil, List.getD_cons_zero, List.getD_cons_succ, List.drop_succ_cons, List.drop_zero]
            iterate 14
              apply mixIn_take
              case hw => rfl
              case hy => intro W' hW; obtain ⟨hwc, -⟩ := bcell hW; go_simp; try rfl
              simp only [Act.put, List.setIfInBounds_toArray, List.set_cons_zero, List.set_cons_succ]
            refine mixIn_do fun K' hK' => ?_
            gi_wp2_with fail
            refine ⟨trivial, fun h => absurd h (by simp [Fence.wide]), callsIn_below (link_any lt.fr lt.to _) ?_⟩
            intro w2 hb2
            have hb2' : Below Wl.heap.size Wl w2 := below_trans (Below.refl _ Wl).drew hb2
            gi_wp2
            refine hK' _ _ hb2' ?_
            clear hK' K'
            have HB2 := Lib.hid hb2'
            have hJ2 : Hid (J (rdyTo x k) w2) := ab_below HJ.out hJl.out hb2'
            have hS2 : Hid (IsSet w2 W.heap.size (x.cuts.map prL)) := hSl.out.below hb2'
            have hBw2 : Hid (BelowX cx w.heap.size w w2) := hBwl.out.trans (BelowX.of (hb2'.mono hBwl.out.size))
            clear hb2 hb2'
            by_cases hm : ((mkLk lt.fr lt.to).a, (mkLk lt.fr lt.to).b) ∈ x.cuts.map prL
            · have hmd : decide (((mkLk lt.fr lt.to).a, (mkLk lt.fr lt.to).b) ∈ x.cuts.map prL) = true := decide_eq_true hm
              have HM := Lib.hid hmd
              clear hm hmd
              iterate 4
                apply mixIn_take
                case hw => rfl
                case hy => intro W' hW; have hlk := link_lookup W' W.heap.size _ (mkLk lt.fr lt.to).a (mkLk lt.fr lt.to).b (hSl.out.below hW); rw [HM.out] at hlk; obtain ⟨hwc, -⟩ := bcell hW; go_simp; try rfl
                simp only [Act.put, List.setIfInBounds_toArray, List.set_cons_zero, List.set_cons_succ]
              iterate 2
                apply mixIn_skip
                case hw => simp [Region.wanted, yielded, *]
                simp only [Act.put, List.setIfInBounds_toArray, List.set_cons_zero, List.set_cons_succ]
              refine mixIn_nil ?_
              gi_wp2
              refine ⟨fun _ h => (by cases h), ?_⟩
              gi_wp2
              go_roundw
              case rel =>
                refine ⟨k + 1, by omega, by go_num, hS2.out, hBw2.out, ?_⟩
                show J _ _
                have hci : canI x k = false := by unfold canI; rw [hx.out]; show canB x lt = false; unfold canB; rw [HM.out]; simp
                rw [rdyTo_succ, hci]
                exact hJ2.out
              case measure => simp [intOf]; omega
            · have hmd : decide (((mkLk lt.fr lt.to).a, (mkLk lt.fr lt.to).b) ∈ x.cuts.map prL) = false := decide_eq_false hm
              have HM := Lib.hid hmd
              have hci : Hid (canI x k = true) := by
                show _ = _
                unfold canI; rw [hx.out]; show canB x lt = true; unfold canB; rw [hmd, decide_eq_true HRD.out]; rfl
              clear hm hmd
              iterate 6
                apply mixIn_take
                case hw => rfl
                case hy => intro W' hW; have hlk := link_lookup W' W.heap.size _ (mkLk lt.fr lt.to).a (mkLk lt.fr lt.to).b (hSl.out.below hW); rw [HM.out] at hlk; obtain ⟨hwc, -⟩ := bcell hW; go_simp; try rfl
                simp only [Act.put, List.setIfInBounds_toArray, List.set_cons_zero, List.set_cons_succ]
              refine mixIn_nil ?_
              have hlen : (rdyTo x k).length < (rdyF x).length := by
                have h1 := (rdyTo_pre x (k + 1) x.way.length (by omega)).length_le
                rw [rdyTo_succ, hci.out] at h1
                simp at h1
                exact h1
              obtain ⟨fn, tmps, assign, body, hy, hR⟩ := HY.out (rdyTo x k) k w2 hJ2.out hlen (rdy_mem hci.out hkl)
              gi_wp2
              refine ⟨fun h => absurd h (by simp [Fence.wide]), hR.mono ?_⟩
              rintro e W3 (⟨rfl, hJ3, hk3⟩ | ⟨rfl, hJx3⟩)
              · gi_wp2
                go_roundw
                case rel =>
                  refine ⟨k + 1, by omega, by go_num, hS2.out.walks hk3.2, hBw2.out.trans hk3.1, ?_⟩
                  show J _ _
                  rw [rdyTo_succ, hci.out]
                  exact hJ3
                case measure => simp [intOf]; omega
              · have hpf : rdyTo x k ++ [k] <+: rdyF x := by
                  have h1 := rdyTo_pre x (k + 1) x.way.length (by omega)
                  rw [rdyTo_succ, hci.out] at h1
                  exact h1
                have HPF := Lib.hid hpf
                clear hpf
                gi_wp2
                refine bodyPost_ret (results_none rfl _ _ _) rfl ?_
                exact ⟨⟨_, rfl⟩, .inr ⟨rdyTo x k ++ [k], HPF.out, hJx3⟩⟩
          · have hd : decide (lt.rd ≤ x.now) = false := decide_eq_false hrd
            have HRD := Lib.hid hrd
            clear hrd
            refine wpIn_mix [(0, true), (1, true), (2, true), (3, true), (4, true), (5, true), (6, true), (7, true), (8, true), (9, true), (10, true), (11, true), (12, true), (13, true), (14, true), (15, true), (16, true), (17, true), (18, true), (19, true), (20, true)] 21
              (fun w' => Below Wl.heap.size Wl w')
              (by kernel_rfl) (by kernel_rfl) (by kernel_rfl) (by kernel_rfl) (by kernel_rfl) (fun d _ _ _ _ h => by cases d <;> exact h) (Below.refl _ _).drew ?_
            simp only [pick, List.map_cons, List.map_nil, List.getD_cons_zero, List.getD_cons_succ, List.drop_succ_cons, List.drop_zero]
            iterate 9
              apply mixIn_take
              case hw => rfl
              case hy => intro W' hW; obtain ⟨hwc, -⟩ := bcell hW; go_simp; try rfl
              simp only [Act.put, List.setIfInBounds_toArray, List.set_cons_zero, List.set_cons_succ]
            iterate 8
              apply mixIn_skip
              case hw => simp [Region.wanted, yielded, *]
              simp only [Act.put, List.setIfInBounds_toArray, List.set_cons_zero, List.set_cons_succ]
            iterate 2
              apply mixIn_take
              case hw => rfl
              case hy => intro W' hW; obtain ⟨hwc, -⟩ := bcell hW; go_simp; try rfl
              simp only [Act.put, List.setIfInBounds_toArray, List.set_cons_zero, List.set_cons_succ]
            iterate 2
              apply mixIn_skip
              case hw => simp [Region.wanted, yielded, *]
              simp only [Act.put, List.setIfInBounds_toArray, List.set_cons_zero, List.set_cons_succ]
            refine mixIn_nil ?_
            gi_wp2
            refine ⟨fun _ h => (by cases h), ?_⟩
            gi_wp2
            go_roundw
            case rel =>
              refine ⟨k + 1, by omega, by go_num, hSl.out, hBwl.out.drew, ?_⟩
              show J _ _
              have hci : canI x k = false := by unfold canI; rw [hx.out]; show canB x lt = false; unfold canB; rw [decide_eq_false (by have := HRD.out; omega)]; rfl
              rw [rdyTo_succ, hci]
              exact ab_below HJ.out hJl.out (Below.refl _ _).drew
            case measure => simp [intOf]; omega
        · obtain rfl : k = x.way.length := by omega
          gi_wp2
          go_end0
          exact ⟨⟨_, rfl⟩, .inl ⟨rdyF x, rfl, hJq.out⟩⟩

/-- .. over the places that are ready, and no others. -/
theorem ready_stopsS (n bx g B c : Nat) (x : Nt) (w : World) (hbx : w.cell? ⟨bx, 0, none⟩ = some (.pointer (some ⟨g, 0, none⟩))) (hS : St w B g x) (hcb : bx ≠ c) (hcg : g ≠ c) (hcr : ∀ j v, w.cell? ⟨g, j, none⟩ = some v → v.ownBlock ≠ some c) (hnd : (x.cuts.map prL).Nodup) (hlw : x.way.length ≤ 10000000) (hlc : x.cuts.length ≤ 10000000) :
    SeqStopsK Fence.wide n Try.prog 87 #[.pointer (some ⟨bx, 0, none⟩)] (fun k : { k : Nat // k ∈ rdyF x } => #[.int .i64 (k.1 : Int)]) (KptX c w.heap.size) (fun xs => xs.map (·.1) = rdyF x) (fun pre => pre.map (·.1) <+: rdyF x) (rdyF x).length w := by
  intro l J Jx W hb hJ _ hY h0
  refine CallsIn.mono (ready1_inX n l bx g B c x w hbx hS hcb hcg hcr hnd hlw hlc (fun p V => ∃ q : List { k : Nat // k ∈ rdyF x }, q.map (·.1) = p ∧ J q V) (fun p V => ∃ q : List { k : Nat // k ∈ rdyF x }, q.map (·.1) = p ∧ Jx q V) W hb
    (fun p A B row h hg hr => by obtain ⟨q, hq, hj⟩ := h; exact ⟨q, hq, hJ q A B row hj hg hr⟩) ?_ ⟨[], rfl, h0⟩) ?_
  · rintro pre k W1 ⟨q, rfl, hj⟩ hlen hk
    refine (hY q ⟨k, hk⟩ W1 hj (by simpa using hlen)).mono ?_
    rintro e W' (⟨rfl, h1, h2⟩ | ⟨rfl, h1⟩)
    · exact .inl ⟨rfl, ⟨q ++ [⟨k, hk⟩], by simp, h1⟩, h2⟩
    · exact .inr ⟨rfl, ⟨q ++ [⟨k, hk⟩], by simp, h1⟩⟩
  · rintro e W' ⟨hv, ⟨xs, rfl, q, hq, hj⟩ | ⟨pre, hp, q, rfl, hj⟩⟩
    · exact ⟨hv, .inl ⟨q, hq, hj⟩⟩
    · exact ⟨hv, .inr ⟨q, hp, hj⟩⟩
end Go.Proofs.Ythlbmcfliejdiaa
end

section
set_option linter.unusedVariables false
set_option linter.unusedSimpArgs false
namespace Go.Proofs.Ythlbmcfliejdiaa
open Go.RowKit Go.Shelf
attribute [local go_sem] Oper.semAt_some

theorem wpListIn_app {α : Type} [Enc α] {F : Fence} {n : Nat} {P : Program} {ops : Array Oper} {rest : List Oper} {o : Oper} {a : Act} {Q : Exit → Act → World → Prop} (W : World) (base : Nat) (hgd : o.guard = none) (s x : Operand) (t e : TypeId) (z : Value) (bytes : Nat)
    (ho : o.op = .call { callee := .builtin .append, args := #[s, x], argTypes := #[t, t] })
    (ht : P.underlying t = some (.slice e)) (hinfo : (P.info? e).map (fun i => (i.zero, i.size, i.bytes)) = some (some z, Enc.sz α, bytes)) (hz : z.cells.size = Enc.sz α) (hs0 : 0 < Enc.sz α) (hb0 : 0 < bytes)
    (v : Value) (xs ys : List α) (A : Option Addr) (c : Nat) (hs : a.eval s = v) (hx : a.eval x = .slice A ys.length c) (HO : Own W base e v xs) (HR : Rd W A ys) (hbase : base ≤ W.heap.size) (hl : (xs.length + ys.length) * bytes ≤ 140737488355328)
    (h : ∀ v1 w1, Own w1 base e v1 (xs ++ ys) → W.grownBy w1 v.ownBlock → (v1.ownBlock = v.ownBlock ∨ v1.ownBlock = some W.heap.size) → wpListIn F n P ops Q rest (a.put o.dst v1) w1) :
    wpListIn F n P ops Q (o :: rest) a W := by
  obtain ⟨v1, w1, hr, h1, h2, h3⟩ := run_app (P := P) W base t o.type e z bytes ht hinfo hz hs0 hb0 v xs ys A c HO HR hbase hl
  refine wpListIn_plain hgd fun K hK => ?_
  unfold Oper.wpIn
  refine ⟨?_, ?_⟩
  · simp [Oper.about, ho, resolve, Target.leads, Sem.run_pure]
  · rw [Oper.semAt_plain F _ _ (by rw [ho]; intro c hc'; cases hc')]
    simp [execOp, ho, resolve, invoke, builtin, hs, hx, hr, Result.andThen]
    exact hK _ _ (h v1 w1 h1 h2 h3)

theorem wpIn_scopeW {n : Nat} {P : Program} {c : Code} {Q : Exit → Act → World → Prop} {a : Act} {w : World} (h : c.wpIn Fence.wide n P (Exit.noGoto Q) a w) : (Code.scope c).wpIn Fence.wide n P Q a w :=
  wpIn_wide.2 (wp_scope_straight (wpIn_wide.1 h))
/-- The walk stops here. -/
theorem stop_here {p : Prop} (h : Hid p) : p := h
theorem bl_newZ {w : World} {o : Obj} {n : Nat} (h : w.heap.size = n) : (w.alloc o).heap[n]? = some o := h ▸ bl_new w o

/-! States with marks. -/
def stD (n : Nat) (f : Nat → Value) (ds : List Deferred) : Act := ⟨((List.range n).map f).toArray, ds⟩
theorem stD_of {l : List Value} {ds : List Deferred} (n : Nat) (h : l.length = n) : (⟨l.toArray, ds⟩ : Act) = stD n (fun i => l.getD i undef) ds := by
  have := st_of n h
  unfold st at this
  unfold stD
  simp only [Act.mk.injEq, and_true] at this ⊢
  exact this
theorem stD_getD {n i : Nat} {f : Nat → Value} {ds : List Deferred} (h : i < n) : (stD n f ds).tmps.getD i undef = f i := st_getD h
def Marks (Ds : List Nat) : List Deferred := Ds.map fun D => { target := .collected D, args := #[] }
theorem leaves_marks {F : Fence} {n m : Nat} {P : Program} {fn : Func} {tmps : Array Value} {R : Ending → World → Prop} {C : World → Prop} {v : Value} (hC : ∀ W D, C W → W.heap[D]? = some (.deferred (some [])) → m ≤ D → C (W.putObj D (.deferred none)))
    (hend : ∀ W, C W → (results fn tmps).run P W = .ok v W ∧ R (.returned v) W) : ∀ (Ds : List Nat) (W : World), C W → Ds.Nodup → (∀ D ∈ Ds, m ≤ D ∧ W.heap[D]? = some (.deferred (some []))) → LeavesInM F n P fn tmps R (Marks Ds) .returning W
  | [], W, h, _, _ => ⟨v, hend W h⟩
  | D :: r, W, h, hn, hd => by
    obtain ⟨h1, h2⟩ := hd D (by simp)
    rw [List.nodup_cons] at hn
    refine ⟨by simp, .inl ⟨D, _, rfl, run_takeDeferred h2, leaves_marks hC hend r _ (hC _ _ h h2 h1) hn.2 (fun E hE => ?_)⟩⟩
    obtain ⟨h3, h4⟩ := hd E (by simp [hE])
    refine ⟨h3, ?_⟩
    have hne : E ≠ D := fun e => hn.1 (e ▸ hE)
    exact (World.putObj_heap_other hne).trans h4

/-! What is kept. -/
theorem Own.cellsAt {α : Type} [Enc α] {w : World} {B : Nat} {e : TypeId} {v : Value} {xs : List α} (h : Own w B e v xs) {b : Nat} (hb : v.ownBlock = some b) : ∃ c t f, w.heap[b]? = some (.cells c t f) := by
  rcases h.2 with ⟨rfl, _⟩ | ⟨g', cap, cur, rfl, _, hh, _⟩
  · simp [Value.ownBlock] at hb
  · simp only [Value.ownBlock, Option.some.injEq] at hb
    subst hb
    exact ⟨_, _, _, hh⟩
theorem Own.blk {α : Type} [Enc α] {w W : World} {B : Nat} {e : TypeId} {v : Value} {xs : List α} (h : Own w B e v xs) (hb : ∀ b, v.ownBlock = some b → W.heap[b]? = w.heap[b]?) : Own W B e v xs := by
  refine ⟨h.1, ?_⟩
  rcases h.2 with hn | ⟨g, cap, cur, rfl, hg, hh, rest⟩
  · exact .inl hn
  · exact .inr ⟨g, cap, cur, rfl, hg, (hb g rfl).trans hh, rest⟩
theorem Free.other {w : World} {B g D : Nat} {x : Nt} {o : Obj} (h : St w B g x) (hD : w.heap[D]? = some o) (ho : o.isCells = false) : Free w g D := by
  obtain ⟨vW, vC, vT, hg, hB, oW, oC, oT⟩ := h
  have hno : ∀ {c : Array Value} {t : TypeId} {f : Nat × Nat} {b : Nat}, w.heap[b]? = some (.cells c t f) → b ≠ D := fun hb e => by
    rw [e, hD] at hb; cases hb; cases ho
  refine ⟨bl_lt hD, (hno hg).symm, fun j v hv => ?_⟩
  rw [bl_cell hg j] at hv
  match j, hv with
  | 0, hv => cases hv; simp [Value.ownBlock]
  | 1, hv => cases hv; simp [Value.ownBlock]
  | 2, hv => cases hv; simp [Value.ownBlock]
  | 3, hv => cases hv; exact fun e => by obtain ⟨c, t, f, hc⟩ := oW.cellsAt e; exact hno hc rfl
  | 4, hv => cases hv; exact fun e => by obtain ⟨c, t, f, hc⟩ := oC.cellsAt e; exact hno hc rfl
  | 5, hv => cases hv; exact fun e => by obtain ⟨c, t, f, hc⟩ := oT.cellsAt e; exact hno hc rfl
  | (j + 6), hv => simp at hv
theorem Free.fresh {w W : World} {B g : Nat} {x : Nt} (h : St w B g x) {row : Option Nat} (hg : w.grownBy W row) (hr : ∀ r, row = some r → r ≠ g) {b : Nat} (hb : b = w.heap.size) (hbW : b < W.heap.size) : Free W g b := by
  have hlt := h.lt
  have h1 := Free.new h (.cells #[] 0)
  have e1 : W.heap[g]? = w.heap[g]? := hg.block g hlt (fun e => hr g e.symm rfl)
  have e2 : (w.alloc (.cells #[] 0)).heap[g]? = w.heap[g]? := Below.heap_alloc w _ g hlt
  refine ⟨hbW, by omega, fun j v hv => ?_⟩
  rw [hb]
  refine h1.2.2 j v ?_
  rw [World.cell?_of_block (e2.trans e1.symm)]
  exact hv
theorem Free.grown {w W : World} {g b : Nat} {row : Option Nat} (h : Free w g b) (hlt : g < w.heap.size) (hg : w.grownBy W row) (hr : ∀ r, row = some r → r ≠ g) : Free W g b := by
  have e1 : W.heap[g]? = w.heap[g]? := hg.block g hlt (fun e => hr g e.symm rfl)
  refine ⟨Nat.lt_of_lt_of_le h.1 hg.size, h.2.1, fun j v hv => h.2.2 j v ?_⟩
  rw [← World.cell?_of_block e1]; exact hv
theorem St.grown {w W : World} {B g : Nat} {x : Nt} {row : Option Nat} (h : St w B g x) (hg : w.grownBy W row) (hr : ∀ r, row = some r → Free w g r) : St W B g x := by
  have hlt := h.lt
  obtain ⟨vW, vC, vT, hgg, hB, oW, oC, oT⟩ := h
  have hno : ∀ j v, w.cell? ⟨g, j, none⟩ = some v → v.ownBlock = none ∨ v.ownBlock ≠ row := fun j v hv => by
    cases hrow : row with
    | none => cases v.ownBlock <;> simp
    | some r => exact .inr ((hr r hrow).2.2 j v hv)
  refine ⟨vW, vC, vT, ?_, hB, oW.kept hg (hno 3 _ (by rw [bl_cell hgg 3]; rfl)), oC.kept hg (hno 4 _ (by rw [bl_cell hgg 4]; rfl)), oT.kept hg (hno 5 _ (by rw [bl_cell hgg 5]; rfl))⟩
  exact (hg.block g hlt (fun e => (hr g e.symm).2.1 rfl)).trans hgg

/-- Calm's state: the network at g; the letters and the timers in rows of their own; the marks. -/
structure CalmS (w2 : World) (g : Nat) (y : Nt) (L : List Lt) (T : List Tm) (u10 u11 : Value) (Ds : List Nat) (W : World) : Prop where
  st : St W w2.heap.size g y
  ol : Own W w2.heap.size 33 u10 L
  ot : Own W w2.heap.size 86 u11 T
  fl : ∀ b, u10.ownBlock = some b → Free W g b
  ft : ∀ b, u11.ownBlock = some b → Free W g b
  bw : Below w2.heap.size w2 W
  nd : Ds.Nodup
  ms : ∀ D ∈ Ds, w2.heap.size ≤ D ∧ W.heap[D]? = some (.deferred (some []))
section
variable {w2 W W' : World} {g : Nat} {y : Nt} {L : List Lt} {T : List Tm} {u10 u11 : Value} {Ds : List Nat}
theorem CalmS.below (h : CalmS w2 g y L T u10 u11 Ds W) (hb : Below W.heap.size W W') : CalmS w2 g y L T u10 u11 Ds W' := by
  have hlt := h.st.lt
  exact ⟨h.st.below hb, h.ol.below hb, h.ot.below hb, fun b e => (h.fl b e).below hlt hb, fun b e => (h.ft b e).below hlt hb, h.bw.trans (hb.mono h.bw.size), h.nd, fun D hD => ⟨(h.ms D hD).1, bl_below (h.ms D hD).2 hb⟩⟩
theorem CalmS.frm (h : CalmS w2 g y L T u10 u11 Ds W) {y' : Nt} (hS : St W' w2.heap.size g y') (hB : Below w2.heap.size W W') (hF : Frm W W' g) : CalmS w2 g y' L T u10 u11 Ds W' :=
  ⟨hS, h.ol.blk (fun b e => (hF b (h.fl b e)).1), h.ot.blk (fun b e => (hF b (h.ft b e)).1), fun b e => (hF b (h.fl b e)).2, fun b e => (hF b (h.ft b e)).2, h.bw.trans hB, h.nd,
    fun D hD => ⟨(h.ms D hD).1, (hF D (Free.other h.st (h.ms D hD).2 rfl)).1.trans (h.ms D hD).2⟩⟩
theorem CalmS.mth (h : CalmS w2 g y L T u10 u11 Ds W) {r : Rs} (hm : mthW w2.heap.size g W r W') (he : r.e = 0) : CalmS w2 g r.x L T u10 u11 Ds W' := by
  rcases hm with ⟨h1, -⟩ | ⟨-, h2, h3, h4⟩
  · exact absurd he h1
  · exact h.frm h2 h3 h4
theorem CalmS.letters (h : CalmS w2 g y L T u10 u11 Ds W) {v1 : Value} {L1 : List Lt} (ho : Own W' w2.heap.size 33 v1 L1) (hg : W.grownBy W' u10.ownBlock) (hat : v1.ownBlock = u10.ownBlock ∨ v1.ownBlock = some W.heap.size) : CalmS w2 g y L1 T v1 u11 Ds W' := by
  have hlt := h.st.lt
  have hne : ∀ r, u10.ownBlock = some r → r ≠ g := fun r e => (h.fl r e).2.1
  refine ⟨h.st.grown hg h.fl, ho, h.ot.kept hg (h.ot.ne_own h.ol (by decide)), fun b e => ?_, fun b e => (h.ft b e).grown hlt hg hne, h.bw.grown hg h.bw.size (fun k hk => (h.ol.lt k hk).1), h.nd, fun D hD => ⟨(h.ms D hD).1, ?_⟩⟩
  · rcases hat with hat | hat
    · exact (h.fl b (hat.symm.trans e)).grown hlt hg hne
    · exact Free.fresh h.st hg hne (Option.some.inj (e.symm.trans hat)) (ho.lt b e).2
  · refine (hg.block D (bl_lt (h.ms D hD).2) (fun e => ?_)).trans (h.ms D hD).2
    obtain ⟨c, t, f, hc⟩ := h.ol.cellsAt e.symm
    rw [(h.ms D hD).2] at hc; cases hc
theorem CalmS.timers (h : CalmS w2 g y L T u10 u11 Ds W) {v1 : Value} {T1 : List Tm} (ho : Own W' w2.heap.size 86 v1 T1) (hg : W.grownBy W' u11.ownBlock) (hat : v1.ownBlock = u11.ownBlock ∨ v1.ownBlock = some W.heap.size) : CalmS w2 g y L T1 u10 v1 Ds W' := by
  have hlt := h.st.lt
  have hne : ∀ r, u11.ownBlock = some r → r ≠ g := fun r e => (h.ft r e).2.1
  refine ⟨h.st.grown hg h.ft, h.ol.kept hg (h.ol.ne_own h.ot (by decide)), ho, fun b e => (h.fl b e).grown hlt hg hne, fun b e => ?_, h.bw.grown hg h.bw.size (fun k hk => (h.ot.lt k hk).1), h.nd, fun D hD => ⟨(h.ms D hD).1, ?_⟩⟩
  · rcases hat with hat | hat
    · exact (h.ft b (hat.symm.trans e)).grown hlt hg hne
    · exact Free.fresh h.st hg hne (Option.some.inj (e.symm.trans hat)) (ho.lt b e).2
  · refine (hg.block D (bl_lt (h.ms D hD).2) (fun e => ?_)).trans (h.ms D hD).2
    obtain ⟨c, t, f, hc⟩ := h.ot.cellsAt e.symm
    rw [(h.ms D hD).2] at hc; cases hc
theorem CalmS.mark (h : CalmS w2 g y L T u10 u11 Ds W) (hb : Below W.heap.size W W') {D : Nat} (hD : W.heap.size ≤ D) (hd : W'.heap[D]? = some (.deferred (some []))) : CalmS w2 g y L T u10 u11 (D :: Ds) W' := by
  have h' := h.below hb
  refine ⟨h'.st, h'.ol, h'.ot, h'.fl, h'.ft, h'.bw, List.nodup_cons.2 ⟨fun hm => ?_, h'.nd⟩, fun E hE => ?_⟩
  · have := bl_lt (h.ms D hm).2; omega
  · rcases List.mem_cons.1 hE with rfl | hE
    · exact ⟨Nat.le_trans h.bw.size hD, hd⟩
    · exact h'.ms E hE
end
end Go.Proofs.Ythlbmcfliejdiaa
end

section
set_option linter.unusedVariables false
set_option linter.unusedSimpArgs false
namespace Go.Proofs.Ythlbmcfliejdiaa
open Go.RowKit Go.Shelf
attribute [local go_sem] Oper.semAt_some

theorem kept_netO {W W' : World} {row : Option Nat} {B : Nat} {v : Value} {x : Nt} (h : NetO W B v x) (hg : W.grownBy W' row) (hr : ∀ r, row = some r → ∃ o : Obj, W.heap[r]? = some o ∧ o.isCells = false) : NetO W' B v x := by
  obtain ⟨AW, cW, AC, cC, AT, cT, rfl, hW, hC, hT⟩ := h
  exact ⟨AW, cW, AC, cC, AT, cT, rfl, kept_own hW hg hr, kept_own hC hg hr, kept_own hT hg hr⟩
/-- Four results: a struct that lies in memory, three values. -/
theorem res_cttt {P : Program} {fn : Func} {tmps : Array Value} {w : World} {p u1 u2 u3 : Tmp} {ty : TypeId} {v1 v2 v3 : Value} (h : fn.results = #[.cell p ty, .tmp u1, .tmp u2, .tmp u3]) (g : Nat) (t : TypeId) (cs : Array Value) (d : TypeDesc) (hp : tmps.getD p undef = .pointer (some ⟨g, 0, none⟩)) (hg : w.heap[g]? = some (.cells cs t (0, 0)))
    (hu : P.underlying ty = some d) (hd : (match d with | .struct _ | .array _ _ => true | _ => false) = true) (hi : (P.info? ty).map (·.size) = some cs.size) (h1 : tmps.getD u1 undef = v1) (h2 : tmps.getD u2 undef = v2) (h3 : tmps.getD u3 undef = v3) :
    (results fn tmps).run P w = .ok (.tuple #[.agg cs, v1, v2, v3]) w := by
  have hp' : tmps[p]?.getD undef = .pointer (some ⟨g, 0, none⟩) := by simpa using hp
  have e1 : tmps[u1]?.getD undef = v1 := by simpa using h1
  have e2 : tmps[u2]?.getD undef = v2 := by simpa using h2
  have e3 : tmps[u3]?.getD undef = v3 := by simpa using h3
  simp [results, h, hp', e1, e2, e3, asAddr, run_loadVar_row w g t ty cs (0, 0) d hg hu hd hi]
def firstLp : Code → Option Code
  | .loop c => some c
  | .seq a b => match firstLp a with
    | some c => some c
    | none => firstLp b
  | .block _ c => firstLp c
  | .scope c => firstLp c
  | .cond _ a b => match firstLp a with
    | some c => some c
    | none => firstLp b
  | _ => none
noncomputable def calmOut : Code := ((Try.f40.body.bind firstLp).getD .skip)
noncomputable def calmInn : Code := ((firstLp calmOut).getD .skip)
set_option maxRecDepth 100000 in
theorem stD_all (f : Nat → Value) (ds : List Deferred) : stD 84 f ds = ⟨#[f 0, f 1, f 2, f 3, f 4, f 5, f 6, f 7, f 8, f 9, f 10, f 11, f 12, f 13, f 14, f 15, f 16, f 17, f 18, f 19, f 20, f 21, f 22, f 23, f 24, f 25, f 26, f 27, f 28, f 29, f 30, f 31, f 32, f 33, f 34, f 35, f 36, f 37, f 38, f 39, f 40, f 41, f 42, f 43, f 44, f 45, f 46, f 47, f 48, f 49, f 50, f 51, f 52, f 53, f 54, f 55, f 56, f 57, f 58, f 59, f 60, f 61, f 62, f 63, f 64, f 65, f 66, f 67, f 68, f 69, f 70, f 71, f 72, f 73, f 74, f 75, f 76, f 77, f 78, f 79, f 80, f 81, f 82, f 83], ds⟩ := by
  have h : List.range 84 = [0, 1, 2, 3, 4, 5, 6, 7, 8, 9, 10, 11, 12, 13, 14, 15, 16, 17, 18, 19, 20, 21, 22, 23, 24, 25, 26, 27, 28, 29, 30, 31, 32, 33, 34, 35, 36, 37, 38, 39, 40, 41, 42, 43, 44, 45, 46, 47, 48, 49, 50, 51, 52, 53, 54, 55, 56, 57, 58, 59, 60, 61, 62, 63, 64, 65, 66, 67, 68, 69, 70, 71, 72, 73, 74, 75, 76, 77, 78, 79, 80, 81, 82, 83] := by decide +kernel
  unfold stD
  rw [h]
  rfl
/-- What is known at the head of a round of the inner loop. -/
def calmI (w2 : World) (g : Nat) (x0 : Nt) (L0 : List Lt) (T : List Tm) (p4 u11 : Value) (lf : Nat) (a : Act) (W : World) : Prop :=
  ∃ f Ds y L u10, a = stD 84 f (Marks Ds) ∧ f 4 = p4 ∧ f 8 = .pointer (some ⟨g, 0, none⟩) ∧ f 10 = u10 ∧ f 11 = u11 ∧ f 12 = .int .i64 (lf : Int) ∧ Hid (CalmS w2 g y L T u10 u11 Ds W) ∧ Hid (Ok y) ∧ Hid (Dlv x0 L0 y L)
def calmMu (g : Nat) (_ : Act) (W : World) : Nat := match W.cell? ⟨g, 3, none⟩ with
  | some (.slice _ n _) => n
  | _ => 0
theorem calmMu_at {w2 : World} {g : Nat} {y : Nt} {L : List Lt} {T : List Tm} {u10 u11 : Value} {Ds : List Nat} {W : World} (h : CalmS w2 g y L T u10 u11 Ds W) (a : Act) : calmMu g a W = y.way.length := by
  obtain ⟨AW, cW, AC, cC, AT, cT, hg, -, -, -, -⟩ := h.st.open
  unfold calmMu
  rw [bl_cell hg 3]
  rfl
set_option maxHeartbeats 4000000 in
set_option maxRecDepth 100000 in
theorem calm_more (w2 : World) (g : Nat) (x0 : Nt) (L0 : List Lt) (T : List Tm) (p4 u10 u11 : Value) (lf : Nat) (f : Nat → Value) (Ds : List Nat) (y : Nt) (L : List Lt) (wr : World) (Q0 : Exit → Act → World → Prop)
    (h4 : f 4 = p4) (h8 : f 8 = .pointer (some ⟨g, 0, none⟩)) (h10 : f 10 = u10) (h11 : f 11 = u11) (h12 : f 12 = .int .i64 (lf : Int)) (hl1 : 1 ≤ lf) (hl2 : lf ≤ 1000)
    (HS : Hid (CalmS w2 g y L T u10 u11 Ds wr)) (HO : Hid (Ok y)) (HD : Hid (Dlv x0 L0 y L)) (HC : Hid (x0.cuts = [])) (hLL : L.length ≤ 1000000) (i : Nat) (r : List Nat) (HR : Hid (rdyF y = i :: r)) :
    calmInn.wpIn Fence.wide 9 Try.prog (Exit.then (fun a' w' => calmI w2 g x0 L0 T p4 u11 lf a' w' ∧ calmMu g a' w' < calmMu g (stD 84 f (Marks Ds)) wr) Q0) (stD 84 f (Marks Ds)) wr := by
  conv => arg 4; whnf
  have hmu := Lib.hid (calmMu_at HS.out (stD 84 f (Marks Ds)))
  rw [hmu.out]
  rw [stD_all, h4, h8, h10, h11, h12]
  clear h4 h8 h10 h11 h12
  have hgl := HS.out.st.lt
  gi_wp2_with (refine ⟨trivial, ?_⟩; gi_at_call 47; refine (callsIn_wide.2 (ready_any _ _)).mono ?_; rintro e w' ⟨rfl, rfl⟩)
  obtain ⟨W0, hW0⟩ : ∃ W0, W0 = (wr.alloc (.cells #[.int .i64 (-1)] 3)).alloc (.cells #[.pointer (some ⟨g, 0, none⟩)] 90) := ⟨_, rfl⟩
  rw [← hW0]
  have HB0 : Hid (Below wr.heap.size wr W0) := by rw [hW0]; exact below_alloc (below_alloc (Below.refl _ _) _) _
  have hsz : W0.heap.size = wr.heap.size + 2 := by rw [hW0]; simp
  have HAT : Hid (W0.heap[wr.heap.size]? = some (.cells #[.int .i64 (-1)] 3 (0, 0))) := by
    rw [hW0]; exact bl_alloc (bl_new wr _) _
  have HBX : Hid (W0.heap[wr.heap.size + 1]? = some (.cells #[.pointer (some ⟨g, 0, none⟩)] 90 (0, 0))) := by
    rw [hW0]; exact bl_newZ (by simp)
  have HS0 := Lib.hid (HS.out.below HB0.out)
  clear hW0
  have hcx : ∀ j v, W0.cell? ⟨g, j, none⟩ = some v → v.ownBlock ≠ some wr.heap.size := by
    intro j v hv
    have h1 := (Free.new HS.out.st (.cells #[] 0)).2.2 j v
    rw [World.cell?_of_block (Below.heap_alloc wr _ g hgl)] at h1
    rw [World.cell?_of_block (HB0.out.block g hgl)] at hv
    exact h1 hv
  have hbx := bl_cell HBX.out 0
  simp at hbx
  refine wpIn_rangeFunc_ownH (F := Fence.wide) rfl (by decide) (gf := 87) (lb := #[.pointer (some ⟨wr.heap.size + 1, 0, none⟩)]) rfl trivial (enters_of Try.func87 (by kernel_rfl) rfl)
    (ready_stopsS 8 (wr.heap.size + 1) g w2.heap.size wr.heap.size y W0 hbx HS0.out.st (by omega) (by omega) hcx HO.out.nodupC (by have := HO.out.way; omega) (by have := HO.out.cuts256; omega)) kptx_t (kptx_b (Nat.le_refl _)) (Below.refl _ _) (fun _ => rfl)
    (fun pre W => pre = [] ∧ Below wr.heap.size W0 W ∧ ∃ v, W.heap[wr.heap.size]? = some (.cells #[v] 3 (0, 0)) ∧ (rdyF y = [] → v = .int .i64 (-1)))
    (fun c pre W => c = .exit 5 ∧ ∃ k, pre.map (·.1) = [k] ∧ Below wr.heap.size W0 W ∧ W.heap[wr.heap.size]? = some (.cells #[.int .i64 (k : Int)] 3 (0, 0)))
    ?hI ?hIx ?h0 (fun x a' W => Below wr.heap.size W0 W ∧ W.heap[wr.heap.size]? = some (.cells #[.int .i64 (x.1 : Int)] 3 (0, 0))) ?hAx ?assign ?body ?done ?stop
  case hI =>
    intro s A V row hs hg hr
    obtain ⟨h1, h2, v, h3, h4⟩ := hs
    exact ⟨h1, h2.grown hg (Nat.le_trans (by omega) h2.size) (fun k e => by have := (hr k e).1; omega), v, kept_cells h3 hg (fun r e => (hr r e).2), h4⟩
  case hIx =>
    intro c s A V row hs hg hr
    obtain ⟨h1, k, h2, h3, h4⟩ := hs
    exact ⟨h1, k, h2, h3.grown hg (Nat.le_trans (by omega) h3.size) (fun k e => by have := (hr k e).1; omega), kept_cells h4 hg (fun r e => (hr r e).2)⟩
  case h0 => exact ⟨rfl, (Below.refl _ _), _, HAT.out, fun _ => rfl⟩
  case hAx =>
    intro x a' s A V row hs hg hr
    exact ⟨hs.1.grown hg (Nat.le_trans (by omega) hs.1.size) (fun k e => by have := (hr k e).1; omega), kept_cells hs.2 hg (fun r e => (hr r e).2)⟩
  case assign =>
    rintro l pre x W K ⟨rfl, hB, v, hv, hnil⟩ hK
    have hne : rdyF y ≠ [] := List.ne_nil_of_mem x.2
    have y0 := bl_cell hv 0
    have y1 := bl_frozen hv 0
    have y2 := bl_lt hv
    have HK := Lib.hid hK
    have HV := Lib.hid hv
    have HBW := Lib.hid hB
    have HNE := Lib.hid hne
    clear hK hv hB hnil hne
    simp at y0
    gi_wp2
    refine HK.out _ _ ((KeepsOthers.setCell _ _ _).from _) ⟨⟨by simp [World.setCell], fun i hi hne => Below.heap_setCell _ _ _ _ hne⟩, (KeepsOthers.setCell _ _ _).walks⟩ ⟨by trivial, HBW.out.setCell (p := ⟨wr.heap.size, 0, none⟩) (Nat.le_refl _) _, _, by simpa using bl_set HV.out 0 (.int .i64 (x.1 : Int)), fun h => absurd h HNE.out⟩ ⟨HBW.out.setCell (p := ⟨wr.heap.size, 0, none⟩) (Nat.le_refl _) _, by simpa using bl_set HV.out 0 (.int .i64 (x.1 : Int))⟩
  case body =>
    rintro l pre x a' W hl hlr ⟨rfl, hB, -⟩ ⟨hB2, hv⟩ hlen
    refine wpIn_block ?_
    refine wpIn_exit ?_
    exact ⟨KeepsFrom.refl _ _, rfl, x.1, rfl, hB2, hv⟩
  case done =>
    rintro D xs W hD hxs ⟨rfl, -⟩ hK
    exact absurd (hxs.symm.trans rfl) (by rw [HR.out]; simp)
  case stop =>
    rintro D c pre W hD hpre ⟨rfl, k, hpk, hB, hv⟩ hK
    rw [hpk, HR.out] at hpre
    have hki : k = i := by simpa using hpre
    subst hki
    have HS1 := Lib.hid (HS.out.mark (HB0.out.trans hB) (by omega) hK)
    have y0 := bl_cell hv 0
    simp at y0
    have ylt := bl_lt hv
    obtain ⟨l, hdl, hd2, hlen⟩ := dlv_step HD.out HC.out HR.out
    have HDL := Lib.hid hdl
    have HD2 := Lib.hid hd2
    have HLEN := Lib.hid hlen
    have HO2 : Hid (Ok { y with way := y.way.eraseIdx k }) := erase_keeps HO.out k
    have hbs := HS1.out.bw.size
    clear hpre hpk hB hv hK hdl hd2 hlen HB0 HAT HBX hcx hbx HS0 hsz
    gi_wp2_with (first
      | (refine ⟨trivial, ?_⟩; gi_at_call 76; refine (callsIn_wide.2 (deliver_m w2.heap.size g y (k : Int) _ HS1.out.st HO.out hbs)).mono ?_; rintro e w5 ⟨rfl, hm⟩; rw [HDL.out] at hm; have HS2 := Lib.hid (HS1.out.mth hm rfl); clear hm; rw [HDL.out])
      | (gi_at_builtin; refine stop_here ?_))
    have HS3 := Lib.hid (HS2.out.below (below_alloc (below_alloc (Below.refl _ _) (.cells #[.int .i64 l.id, .int .i64 l.fr, .int .i64 l.to, .int .i64 l.rd, .string l.data] 33)) (.cells #[.int .i64 l.id, .int .i64 l.fr, .int .i64 l.to, .int .i64 l.rd, .string l.data] 33)))
    change wpListIn _ _ _ _ _ _ _ (World.alloc (w5.alloc _) _)
    refine wpListIn_app _ w2.heap.size rfl (.tmp 66) (.tmp 68) 22 33 _ 48 rfl Try.underlying22 infoW rfl (by decide) (by decide) u10 L [l] (some ⟨w5.heap.size + 1, 0, none⟩) 1 rfl rfl HS3.out.ol ?hR ?hB ?hL ?_
    case hR =>
      have h := Rd.new (w5.alloc (.cells #[.int .i64 l.id, .int .i64 l.fr, .int .i64 l.to, .int .i64 l.rd, .string l.data] 33)) 33 l #[.int .i64 l.id, .int .i64 l.fr, .int .i64 l.to, .int .i64 l.rd, .string l.data] rfl
      simp only [World.size_alloc] at h
      exact h
    case hB => exact HS3.out.bw.size
    case hL => simp; omega
    intro v1 w8 ho hg hat
    have HS4 := Lib.hid (HS3.out.letters ho hg hat)
    clear ho hg hat
    gi_wp2
    refine ⟨⟨_, D :: Ds, _, _, _, stD_of 84 (by rfl), rfl, rfl, rfl, rfl, rfl, HS4, HO2, HD2⟩, ?_⟩
    rw [calmMu_at HS4.out]
    have := HLEN.out
    show (y.way.eraseIdx k).length < _
    omega
set_option maxHeartbeats 4000000 in
set_option maxRecDepth 100000 in
theorem calm_none (w2 : World) (g : Nat) (x0 : Nt) (L0 : List Lt) (T : List Tm) (p4 u10 u11 : Value) (lf : Nat) (f : Nat → Value) (Ds : List Nat) (y : Nt) (L : List Lt) (wr : World) (Q0 : Exit → Act → World → Prop)
    (h4 : f 4 = p4) (h8 : f 8 = .pointer (some ⟨g, 0, none⟩)) (h10 : f 10 = u10) (h11 : f 11 = u11) (h12 : f 12 = .int .i64 (lf : Int)) (hl1 : 1 ≤ lf) (hl2 : lf ≤ 1000)
    (HS : Hid (CalmS w2 g y L T u10 u11 Ds wr)) (HO : Hid (Ok y)) (HD : Hid (Dlv x0 L0 y L)) (HC : Hid (x0.cuts = [])) (hLL : L.length ≤ 1000000) (HR : Hid (rdyF y = [])) (hx3 : ∀ (l : List Value) (E : List Nat) (V : World), l.length = 84 → l.getD 4 undef = p4 → l.getD 8 undef = .pointer (some ⟨g, 0, none⟩) → l.getD 10 undef = u10 → l.getD 11 undef = u11 → l.getD 12 undef = .int .i64 (lf : Int) → CalmS w2 g y L T u10 u11 E V → Q0 (.exit 3) ⟨l.toArray, Marks E⟩ V) :
    calmInn.wpIn Fence.wide 9 Try.prog (Exit.then (fun a' w' => calmI w2 g x0 L0 T p4 u11 lf a' w' ∧ calmMu g a' w' < calmMu g (stD 84 f (Marks Ds)) wr) Q0) (stD 84 f (Marks Ds)) wr := by
  conv => arg 4; whnf
  have hmu := Lib.hid (calmMu_at HS.out (stD 84 f (Marks Ds)))
  rw [hmu.out]
  rw [stD_all, h4, h8, h10, h11, h12]
  clear h4 h8 h10 h11 h12
  have hgl := HS.out.st.lt
  gi_wp2_with (refine ⟨trivial, ?_⟩; gi_at_call 47; refine (callsIn_wide.2 (ready_any _ _)).mono ?_; rintro e w' ⟨rfl, rfl⟩)
  obtain ⟨W0, hW0⟩ : ∃ W0, W0 = (wr.alloc (.cells #[.int .i64 (-1)] 3)).alloc (.cells #[.pointer (some ⟨g, 0, none⟩)] 90) := ⟨_, rfl⟩
  rw [← hW0]
  have HB0 : Hid (Below wr.heap.size wr W0) := by rw [hW0]; exact below_alloc (below_alloc (Below.refl _ _) _) _
  have hsz : W0.heap.size = wr.heap.size + 2 := by rw [hW0]; simp
  have HAT : Hid (W0.heap[wr.heap.size]? = some (.cells #[.int .i64 (-1)] 3 (0, 0))) := by
    rw [hW0]; exact bl_alloc (bl_new wr _) _
  have HBX : Hid (W0.heap[wr.heap.size + 1]? = some (.cells #[.pointer (some ⟨g, 0, none⟩)] 90 (0, 0))) := by
    rw [hW0]; exact bl_newZ (by simp)
  have HS0 := Lib.hid (HS.out.below HB0.out)
  clear hW0
  have hcx : ∀ j v, W0.cell? ⟨g, j, none⟩ = some v → v.ownBlock ≠ some wr.heap.size := by
    intro j v hv
    have h1 := (Free.new HS.out.st (.cells #[] 0)).2.2 j v
    rw [World.cell?_of_block (Below.heap_alloc wr _ g hgl)] at h1
    rw [World.cell?_of_block (HB0.out.block g hgl)] at hv
    exact h1 hv
  have hbx := bl_cell HBX.out 0
  simp at hbx
  refine wpIn_rangeFunc_ownH (F := Fence.wide) rfl (by decide) (gf := 87) (lb := #[.pointer (some ⟨wr.heap.size + 1, 0, none⟩)]) rfl trivial (enters_of Try.func87 (by kernel_rfl) rfl)
    (ready_stopsS 8 (wr.heap.size + 1) g w2.heap.size wr.heap.size y W0 hbx HS0.out.st (by omega) (by omega) hcx HO.out.nodupC (by have := HO.out.way; omega) (by have := HO.out.cuts256; omega)) kptx_t (kptx_b (Nat.le_refl _)) (Below.refl _ _) (fun _ => rfl)
    (fun pre W => pre = [] ∧ Below wr.heap.size W0 W ∧ ∃ v, W.heap[wr.heap.size]? = some (.cells #[v] 3 (0, 0)) ∧ (rdyF y = [] → v = .int .i64 (-1)))
    (fun c pre W => c = .exit 5 ∧ ∃ k, pre.map (·.1) = [k] ∧ Below wr.heap.size W0 W ∧ W.heap[wr.heap.size]? = some (.cells #[.int .i64 (k : Int)] 3 (0, 0)))
    ?hI ?hIx ?h0 (fun x a' W => Below wr.heap.size W0 W ∧ W.heap[wr.heap.size]? = some (.cells #[.int .i64 (x.1 : Int)] 3 (0, 0))) ?hAx ?assign ?body ?done ?stop
  case hI =>
    intro s A V row hs hg hr
    obtain ⟨h1, h2, v, h3, h4⟩ := hs
    exact ⟨h1, h2.grown hg (Nat.le_trans (by omega) h2.size) (fun k e => by have := (hr k e).1; omega), v, kept_cells h3 hg (fun r e => (hr r e).2), h4⟩
  case hIx =>
    intro c s A V row hs hg hr
    obtain ⟨h1, k, h2, h3, h4⟩ := hs
    exact ⟨h1, k, h2, h3.grown hg (Nat.le_trans (by omega) h3.size) (fun k e => by have := (hr k e).1; omega), kept_cells h4 hg (fun r e => (hr r e).2)⟩
  case h0 => exact ⟨rfl, (Below.refl _ _), _, HAT.out, fun _ => rfl⟩
  case hAx =>
    intro x a' s A V row hs hg hr
    exact ⟨hs.1.grown hg (Nat.le_trans (by omega) hs.1.size) (fun k e => by have := (hr k e).1; omega), kept_cells hs.2 hg (fun r e => (hr r e).2)⟩
  case assign =>
    rintro l pre x W K ⟨rfl, hB, v, hv, hnil⟩ hK
    have hne : rdyF y ≠ [] := List.ne_nil_of_mem x.2
    have y0 := bl_cell hv 0
    have y1 := bl_frozen hv 0
    have y2 := bl_lt hv
    have HK := Lib.hid hK
    have HV := Lib.hid hv
    have HBW := Lib.hid hB
    have HNE := Lib.hid hne
    clear hK hv hB hnil hne
    simp at y0
    gi_wp2
    refine HK.out _ _ ((KeepsOthers.setCell _ _ _).from _) ⟨⟨by simp [World.setCell], fun i hi hne => Below.heap_setCell _ _ _ _ hne⟩, (KeepsOthers.setCell _ _ _).walks⟩ ⟨by trivial, HBW.out.setCell (p := ⟨wr.heap.size, 0, none⟩) (Nat.le_refl _) _, _, by simpa using bl_set HV.out 0 (.int .i64 (x.1 : Int)), fun h => absurd h HNE.out⟩ ⟨HBW.out.setCell (p := ⟨wr.heap.size, 0, none⟩) (Nat.le_refl _) _, by simpa using bl_set HV.out 0 (.int .i64 (x.1 : Int))⟩
  case body =>
    rintro l pre x a' W hl hlr ⟨rfl, hB, -⟩ ⟨hB2, hv⟩ hlen
    refine wpIn_block ?_
    refine wpIn_exit ?_
    exact ⟨KeepsFrom.refl _ _, rfl, x.1, rfl, hB2, hv⟩
  case done =>
    rintro D xs W hD hxs ⟨rfl, hB, v, hv, hnil⟩ hK
    obtain rfl := hnil HR.out
    have HS1 := Lib.hid (HS.out.mark (HB0.out.trans hB) (by omega) hK)
    have y0 := bl_cell hv 0
    simp at y0
    have ylt := bl_lt hv
    have HDL := Lib.hid (deliver_no y)
    have hbs := HS1.out.bw.size
    clear hB hv hK HB0 HAT HBX hcx hbx HS0 hsz hnil
    gi_wp2_with (refine ⟨trivial, ?_⟩; gi_at_call 76; refine (callsIn_wide.2 (deliver_m w2.heap.size g y (-1) _ HS1.out.st HO.out hbs)).mono ?_; rintro e w5 ⟨rfl, hm⟩; rw [HDL.out] at hm; have HS2 := Lib.hid (HS1.out.below (by rcases hm with ⟨-, h⟩ | ⟨h, -⟩ <;> first | exact h | exact absurd h (by decide))); clear hm; rw [HDL.out])
    exact hx3 _ (D :: Ds) _ rfl rfl rfl rfl rfl rfl (HS2.out.below (below_alloc (Below.refl _ _) _))
  case stop =>
    rintro D c pre W hD hpre ⟨rfl, k, hpk, hB, hv⟩ hK
    rw [hpk, HR.out] at hpre
    simp at hpre
/-- What is known at the head of a tick. -/
def calmO (w2 : World) (g : Nat) (x : Nt) (N : Nat) (p4 : Value) (a : Act) (W : World) : Prop :=
  ∃ (k : Nat) (f : Nat → Value) (Ds : List Nat) (u10 u11 : Value), a = stD 84 f (Marks Ds) ∧ k ≤ N ∧ f 4 = p4 ∧ f 8 = .pointer (some ⟨g, 0, none⟩) ∧ f 10 = u10 ∧ f 11 = u11 ∧ f 12 = .int .i64 ((N - k : Nat) : Int) ∧ Hid (CalmS w2 g (calmX x k) (calmL x k) (calmT x k) u10 u11 Ds W)
def calmMo (a : Act) (_ : World) : Nat := (intOf (a.tmps.getD 12 undef)).toNat
set_option maxHeartbeats 4000000 in
set_option maxRecDepth 100000 in
theorem calm_tick (w2 : World) (g : Nat) (x : Nt) (N k : Nat) (p4 u10 u11 : Value) (f : Nat → Value) (Ds : List Nat) (wr : World) (Q0 : Exit → Act → World → Prop)
    (h4 : f 4 = p4) (h8 : f 8 = .pointer (some ⟨g, 0, none⟩)) (h10 : f 10 = u10) (h11 : f 11 = u11) (h12 : f 12 = .int .i64 ((N - k : Nat) : Int)) (hk : k < N) (hN : N ≤ 1000)
    (HX : Hid (Ok x)) (HC : Hid (x.cuts = [])) (hlim : x.now + N ≤ 1099511627776) (HS : Hid (CalmS w2 g (calmX x k) (calmL x k) (calmT x k) u10 u11 Ds wr)) :
    calmOut.wpIn Fence.wide 9 Try.prog (Exit.then (fun a' w' => calmO w2 g x N p4 a' w' ∧ calmMo a' w' < calmMo (stD 84 f (Marks Ds)) wr) Q0) (stD 84 f (Marks Ds)) wr := by
  conv => arg 4; whnf
  have hmu : Hid (calmMo (stD 84 f (Marks Ds)) wr = N - k) := by
    show _ = _
    unfold calmMo
    rw [stD_getD (by decide), h12]; rfl
  rw [hmu.out]
  obtain ⟨x0, hx0⟩ : ∃ z, z = calmX x k := ⟨_, rfl⟩
  obtain ⟨L0, hL0⟩ : ∃ z, z = calmL x k := ⟨_, rfl⟩
  obtain ⟨T0, hT0⟩ : ∃ z, z = calmT x k := ⟨_, rfl⟩
  obtain ⟨lf, hlf⟩ : ∃ z, z = N - k := ⟨_, rfl⟩
  have hca := calm_at HX.out k (by omega)
  have hlen : L0.length + x0.way.length ≤ 200 := by
    have h1 := (calm_perm HX.out k (by omega)).length_eq
    have h2 := HX.out.way
    rw [hL0, hx0, ← List.length_append, h1]; exact h2
  have hlenT : T0.length + x0.timers.length ≤ 64 := by
    have h1 := (calm_tperm HX.out k (by omega)).1.length_eq
    have h2 := HX.out.tms
    rw [hT0, hx0, ← List.length_append, h1]; exact h2
  have HSX : Hid (calmX x (k + 1) = calm1 x0 ∧ calmL x (k + 1) = L0 ++ dueF x0.now x0.way ∧ calmT x (k + 1) = T0 ++ (tickM x0).ts) := by rw [hx0, hL0, hT0]; exact ⟨rfl, rfl, rfl⟩
  rw [← hx0, ← hL0, ← hT0] at HS
  rw [← hx0] at hca
  rw [← hlf] at h12 ⊢
  have hnow : ¬ x0.now = 1099511627776 := by have := hca.2.1; omega
  have HCA := Lib.hid hca
  have HC0 : Hid (x0.cuts = []) := hca.2.2.1.trans HC.out
  have HLF : Hid (lf = N - k) := hlf
  have HNW := Lib.hid hnow
  have hl1 : 1 ≤ lf := by omega
  have hl2 : lf ≤ 1000 := by omega
  clear hx0 hL0 hT0 hlf hca hnow hmu
  rw [stD_all, h4, h8, h10, h11, h12]
  clear h4 h8 h10 h11 h12
  gi_wp2
  rw [stD_of (ds := Marks Ds) 84 (by rfl)]
  refine wpIn_loop (calmI w2 g x0 L0 T0 p4 u11 lf) (calmMu g) ⟨_, Ds, x0, L0, u10, rfl, rfl, rfl, rfl, rfl, rfl, HS, HCA.out.1, dlv_start x0 L0⟩ ?_
  rintro a W ⟨f, Es, y, L, v10, rfl, h4, h8, h10, h11, h12, HSy, HOy, HDy⟩
  have hLl : L.length ≤ 1000000 := by
    have h1 := congrArg List.length HDy.out.2.2.1
    have h2 : (dueF x0.now x0.way).length ≤ x0.way.length := List.length_filter_le _ _
    rw [List.length_append, List.length_append] at h1
    omega
  obtain ⟨rd, hrd⟩ : ∃ r, r = rdyF y := ⟨_, rfl⟩
  cases rd with
  | cons i r => exact calm_more w2 g x0 L0 T0 p4 v10 u11 lf f Es y L W _ h4 h8 h10 h11 h12 hl1 hl2 HSy HOy HDy HC0 hLl i r hrd.symm
  | nil =>
    refine calm_none w2 g x0 L0 T0 p4 v10 u11 lf f Es y L W _ h4 h8 h10 h11 h12 hl1 hl2 HSy HOy HDy HC0 hLl hrd.symm ?_
    clear h4 h8 h10 h11 h12 HSy f W
    intro l E V hl e4 e8 e10 e11 e12 hCS
    obtain ⟨hy, hL⟩ := dlv_end HDy.out HC0.out hrd.symm
    rw [hL] at hCS
    have htk := tick_m w2.heap.size g y V hCS.st HOy.out hCS.bw.size
    have hte : (tickM y).e = 0 := by rw [hy, (tick_ways x0 _).2]; unfold tickM; rw [if_neg HNW.out]
    have htx : (tickM y).x = calm1 x0 := by rw [hy]; rfl
    have htt : (tickM y).ts = (tickM x0).ts := by rw [hy, (tick_ways x0 _).1]
    have hlt : (tickM x0).ts.length ≤ x0.timers.length := by unfold tickM; rw [if_neg HNW.out]; exact List.length_filter_le _ _
    obtain ⟨rt, hrt⟩ : ∃ r, r = tickM y := ⟨_, rfl⟩
    rw [← hrt] at htk hte htx htt
    obtain ⟨rx, rid, rl, rts, re⟩ := rt
    simp only at htk hte htx htt
    subst hte htx htt
    have HTK := Lib.hid htk
    have HCS := Lib.hid hCS
    clear htk hCS hrt hy hL hrd HOy HDy
    have hst := stD_of (ds := Marks E) 84 hl
    rw [hst, stD_all, e4, e8, e10, e11, e12]
    clear hst e4 e8 e10 e11 e12 hl
    gi_wp2_with (first
      | (refine ⟨trivial, ?_⟩; gi_at_call 72; refine (callsIn_wide.2 HTK.out).mono ?_; rintro e w5 ⟨v, rfl, ho, hm⟩; obtain ⟨A5, c5, rfl, -, hR5⟩ := ho.slice; have HR5 := Lib.hid hR5; have HS2 := Lib.hid (HCS.out.mth hm rfl); clear hm ho hR5)
      | (gi_at_builtin; refine stop_here ?_))
    refine wpListIn_app _ w2.heap.size rfl (.tmp 75) (.tmp 76) 24 86 _ 24 rfl Try.underlying24 infoT rfl (by decide) (by decide) u11 T0 (tickM x0).ts A5 c5 rfl rfl HS2.out.ot HR5.out HS2.out.bw.size (by omega) ?_
    intro v1 w8 ho hg hat
    have HS4 := Lib.hid (HS2.out.timers ho hg hat)
    clear ho hg hat HS2 HCS
    gi_wp2
    obtain ⟨s1, s2, s3⟩ := HSX.out
    have hNk : ((lf : Int) - 1) = ((N - (k + 1) : Nat) : Int) := by have := HLF.out; omega
    refine ⟨⟨k + 1, _, E, _, _, stD_of 84 (by rfl), by omega, rfl, rfl, rfl, rfl, ?_, ?_⟩, ?_⟩
    · show Value.int .i64 ((lf : Int) - 1) = _; rw [hNk]
    · show CalmS _ _ _ _ _ _ _ _ _; rw [s1, s2, s3]; exact HS4.out
    · show (intOf (.int .i64 ((lf : Int) - 1))).toNat < lf
      simp [intOf]; omega
set_option maxHeartbeats 4000000 in
set_option maxRecDepth 100000 in
theorem calm_last (w2 : World) (g : Nat) (x : Nt) (N k : Nat) (p4 u10 u11 : Value) (f : Nat → Value) (Ds : List Nat) (wr : World) (Q0 : Exit → Act → World → Prop)
    (h4 : f 4 = p4) (h8 : f 8 = .pointer (some ⟨g, 0, none⟩)) (h10 : f 10 = u10) (h11 : f 11 = u11) (h12 : f 12 = .int .i64 ((N - k : Nat) : Int)) (hk : k = N) (hN : N ≤ 1000)
    (HX : Hid (Ok x)) (HC : Hid (x.cuts = [])) (hlim : x.now + N ≤ 1099511627776) (HS : Hid (CalmS w2 g (calmX x k) (calmL x k) (calmT x k) u10 u11 Ds wr))
    (hx1 : ∀ (l : List Value) (E : List Nat) (V : World), l.length = 84 → l.getD 4 undef = p4 → l.getD 8 undef = .pointer (some ⟨g, 0, none⟩) → l.getD 10 undef = u10 → l.getD 11 undef = u11 → CalmS w2 g (calmX x N) (calmL x N) (calmT x N) u10 u11 E V → Q0 (.exit 1) ⟨l.toArray, Marks E⟩ V) :
    calmOut.wpIn Fence.wide 9 Try.prog (Exit.then (fun a' w' => calmO w2 g x N p4 a' w' ∧ calmMo a' w' < calmMo (stD 84 f (Marks Ds)) wr) Q0) (stD 84 f (Marks Ds)) wr := by
  subst hk
  conv => arg 4; whnf
  have hca := calm_at HX.out k (by omega)
  have hlen : (calmL x k).length ≤ 200 := by
    have h1 := (calm_perm HX.out k (by omega)).length_eq
    have h2 := HX.out.way
    rw [List.length_append] at h1; omega
  rw [Nat.sub_self] at h12
  rw [stD_all, h4, h8, h10, h11, h12]
  clear h4 h8 h10 h11 h12
  gi_wp2
  refine wpIn_loop_once ?_
  gi_wp2
  exact hx1 _ Ds _ rfl rfl rfl rfl rfl HS.out
set_option maxHeartbeats 4000000 in
set_option maxRecDepth 100000 in
theorem calm_in (x : Nt) (N : Nat) (v : Value) (w : World) (hV : NetV w v x) (hx : Ok x) (hN : N ≤ 1000) (hlim : x.now + N ≤ 1099511627776) :
    CallsIn Fence.wide 9 Try.prog 40 #[v, .int .i64 (N : Int)] w fun e w' => ∃ v u t, e = .returned (.tuple #[v, u, t, .int .i64 0]) ∧ NetO w' w.heap.size v (calmX (noCut x) N) ∧ Own w' w.heap.size 33 u (calmL (noCut x) N) ∧ Own w' w.heap.size 86 t (calmT (noCut x) N) ∧ Below w.heap.size w w' := by
  obtain ⟨AW, cW, AC, cC, AT, cT, rfl, hW, hC, hT⟩ := hV
  have hck := (ok_iff x).2 hx
  have h1 := hx.way
  have h2 := hx.cuts256
  have h3 := hx.tms
  have hnow := hx.t0
  have HCH : Hid (∀ W, Below w.heap.size w W → Calls Try.prog 45 #[.agg #[.int .i64 x.nodes, .int .i64 x.now, .int .i64 x.next, .slice AW x.way.length cW, .slice AC x.cuts.length cC, .slice AT x.timers.length cT]] W fun e w' => ∃ g, e = .returned (.tuple #[.pointer (some ⟨g, 0, none⟩), .int .i64 0]) ∧ St w' W.heap.size g x ∧ Below W.heap.size W w') := fun W hb => changing_ok x AW AC AT cW cC cT W (by omega) (by omega) (by omega) (hW.below hb) (hC.below hb) (hT.below hb) hck
  have HOK := Lib.hid hx
  have d1 : decide ((N : Int) < 0) = false := decide_eq_false (by omega)
  have d2 : decide ((1000 : Int) < (N : Int)) = false := decide_eq_false (by omega)
  have hwr : IntKind.i64.wrap (x.now + (N : Int)) = x.now + (N : Int) := IntWalk.i64_in _ (by omega)
  have d3 : decide (1099511627776 < x.now + (N : Int)) = false := decide_eq_false (by omega)
  clear hW hC hT hck hx
  refine callsIn_of_wp_marks Try.func40 rfl trivial ?_ rfl
  simp only [Try.ntmps40, List.size_toArray, List.length_cons, List.length_nil, Nat.reduceAdd, Nat.reduceSub, Array.replicate_succ, Array.replicate_zero, List.push_toArray, List.append_toArray, List.nil_append, List.cons_append]
  gi_wp2
  refine wpIn_scopeW ?_
  gi_wp2_with fail
  obtain ⟨w2, hw2⟩ : ∃ w2, w2 = (w.alloc (.cells #[.int .i64 x.nodes, .int .i64 x.now, .int .i64 x.next, .slice AW x.way.length cW, .slice AC x.cuts.length cC, .slice AT x.timers.length cT] 26)).alloc (.cells #[.int .i64 0, .int .i64 0, .int .i64 0, .slice none 0 0, .slice none 0 0, .slice none 0 0] 26) := ⟨_, rfl⟩
  rw [← hw2]
  have HB2 : Hid (Below w.heap.size w w2) := by rw [hw2]; exact below_alloc (below_alloc (Below.refl _ _) _) _
  have hs2 : w2.heap.size = w.heap.size + 2 := by rw [hw2]; simp
  have HZ2 : Hid (w2.heap[w.heap.size + 1]? = some (.cells #[.int .i64 0, .int .i64 0, .int .i64 0, .slice none 0 0, .slice none 0 0, .slice none 0 0] 26 (0, 0))) := by rw [hw2]; exact bl_newZ (by simp)
  clear hw2
  refine ⟨trivial, ?_⟩
  refine (callsIn_wide.2 (HCH.out _ HB2.out)).mono ?_
  rintro e w3 ⟨g, rfl, hS3, hb3⟩
  obtain ⟨AW3, cW3, AC3, cC3, AT3, cT3, hg3, hB3, oW3, oC3, oT3⟩ := hS3.open
  have HG3 := Lib.hid hg3
  obtain ⟨⟨k0, k1, k2, k3, k4, k5⟩, f0, f1, f2, f3, f4, f5⟩ := blc6 hg3
  have hlg := bl_lt hg3
  have HW3 := Lib.hid oW3
  have HT3 := Lib.hid oT3
  have HB3 := Lib.hid hb3
  clear hg3 oW3 oC3 oT3 hS3 hb3
  gi_wp2
  refine wpIn_label ?_
  gi_wp2
  have HS0 : Hid (CalmS w2 g (noCut x) [] [] (.slice none 0 0) (.slice none 0 0) [] (w3.setCell ⟨g, 4, none⟩ (.slice none 0 0))) := by
    have hne := HW3.out.ne HG3.out (by decide)
    have hne' := HT3.out.ne HG3.out (by decide)
    refine ⟨⟨_, _, _, by simpa [noCut] using bl_set HG3.out 4 (.slice none 0 0), hB3, HW3.out.setCell hne _, Own.nil _ _ _, HT3.out.setCell hne' _⟩, Own.nil _ _ _, Own.nil _ _ _, fun b e => by simp [Value.ownBlock] at e, fun b e => by simp [Value.ownBlock] at e, HB3.out.setCell (p := ⟨g, 4, none⟩) hB3 _, List.nodup_nil, fun D hD => by simp at hD⟩
  have HOK' : Hid (Ok (noCut x)) := nocut_ok HOK.out
  have hlim' : (noCut x).now + (N : Int) ≤ 1099511627776 := hlim
  clear HG3 HW3 HT3 HB3 k0 k1 k2 k3 k4 k5 f0 f1 f2 f3 f4 f5 hlg HCH d1 d2 d3 hwr hB3
  refine wpIn_loop (calmO w2 g (noCut x) N (.pointer (some ⟨w.heap.size + 1, 0, none⟩))) calmMo ⟨0, _, [], _, _, stD_of 84 (by rfl), Nat.zero_le _, rfl, rfl, rfl, rfl, rfl, HS0⟩ ?_
  clear HS0
  rintro a W ⟨k, f, Ds, u10, u11, rfl, hk, h4, h8, h10, h11, h12, HS⟩
  by_cases hlt : k < N
  · exact calm_tick w2 g (noCut x) N k _ u10 u11 f Ds W _ h4 h8 h10 h11 h12 hlt hN HOK' rfl hlim' HS
  · refine calm_last w2 g (noCut x) N k _ u10 u11 f Ds W _ h4 h8 h10 h11 h12 (by omega) hN HOK' rfl hlim' HS ?_
    clear HS h4 h8 h10 h11 h12
    intro l E V hl e4 e8 e10 e11 hCS
    have hca := (calm_at HOK'.out N hlim').1
    obtain ⟨y, hy⟩ : ∃ z, z = calmX (noCut x) N := ⟨_, rfl⟩
    obtain ⟨L, hL⟩ : ∃ z, z = calmL (noCut x) N := ⟨_, rfl⟩
    obtain ⟨T, hT⟩ : ∃ z, z = calmT (noCut x) N := ⟨_, rfl⟩
    rw [← hy, ← hL, ← hT] at hCS
    rw [← hy] at hca
    have HY := Lib.hid hy
    have HL := Lib.hid hL
    have HT := Lib.hid hT
    have HCS := Lib.hid hCS
    obtain ⟨AWy, cWy, ACy, cCy, ATy, cTy, hgy, -, oWy, oCy, oTy⟩ := hCS.st.open
    obtain ⟨⟨k0, k1, k2, k3, k4, k5⟩, -⟩ := blc6 hgy
    have hlg := bl_lt hgy
    have HNO : Hid (NetO V w2.heap.size (.agg #[.int .i64 y.nodes, .int .i64 y.now, .int .i64 y.next, .slice AWy y.way.length cWy, .slice ACy y.cuts.length cCy, .slice ATy y.timers.length cTy]) y) := ⟨AWy, cWy, ACy, cCy, ATy, cTy, rfl, oWy, oCy, oTy⟩
    have hz := bl_below HZ2.out (hCS.bw.mono (by omega))
    have hlz := bl_lt hz
    have HZ := Lib.hid hz
    obtain ⟨⟨z0, z1, z2, z3, z4, z5⟩, y0, y1, y2, y3, y4, y5⟩ := blc6 hz
    have hst := stD_of (ds := Marks E) 84 hl
    rw [hst, stD_all, e4, e8, e10, e11]
    clear hst e4 e8 e10 e11 hl hy hL hT hgy oWy oCy oTy hz hCS
    gi_wp2
    show LeavesInM Fence.wide 9 Try.prog Try.f40 _ _ (Marks E) .returning _
    refine leaves_marks (m := w2.heap.size) (C := fun V' => V'.heap[w.heap.size + 1]? = some (.cells #[.int .i64 y.nodes, .int .i64 y.now, .int .i64 y.next, .slice AWy y.way.length cWy, .slice ACy y.cuts.length cCy, .slice ATy y.timers.length cTy] 26 (0, 0)) ∧ NetO V' w2.heap.size (.agg #[.int .i64 y.nodes, .int .i64 y.now, .int .i64 y.next, .slice AWy y.way.length cWy, .slice ACy y.cuts.length cCy, .slice ATy y.timers.length cTy]) y ∧ Own V' w2.heap.size 33 u10 L ∧ Own V' w2.heap.size 86 u11 T ∧ Below w.heap.size w V')
      (v := .tuple #[.agg #[.int .i64 y.nodes, .int .i64 y.now, .int .i64 y.next, .slice AWy y.way.length cWy, .slice ACy y.cuts.length cCy, .slice ATy y.timers.length cTy], u10, u11, .int .i64 0]) ?hC ?hend E _ ?start HCS.out.nd ?ms
    case hC =>
      rintro V' D ⟨c1, c2, c3, c4, c5⟩ hD hm
      have hr : ∀ r, some D = some r → ∃ o : Obj, V'.heap[r]? = some o ∧ o.isCells = false := fun r e => by cases e; exact ⟨_, hD, rfl⟩
      have hg := grownBy_putObj' V' D (.deferred none)
      exact ⟨kept_cells c1 hg hr, kept_netO c2 hg hr, kept_own c3 hg hr, kept_own c4 hg hr, c5.trans (belowK_b (w := w2) (by omega) V' D _ _ hm hD rfl rfl)⟩
    case hend =>
      rintro V' ⟨c1, c2, c3, c4, c5⟩
      refine ⟨res_cttt Try.results40 (w.heap.size + 1) 26 #[.int .i64 y.nodes, .int .i64 y.now, .int .i64 y.next, .slice AWy y.way.length cWy, .slice ACy y.cuts.length cCy, .slice ATy y.timers.length cTy] _ rfl c1 Try.underlying26 rfl sizeNet rfl rfl rfl, _, _, _, rfl, ?_, ?_, ?_, c5⟩
      · rw [← HY.out]; exact c2.weaken (by omega)
      · rw [← HL.out]; exact c3.weaken (by omega)
      · rw [← HT.out]; exact c4.weaken (by omega)
    case start =>
      have hlt2 : w.heap.size + 1 < w2.heap.size := by omega
      refine ⟨bl_all6 HZ.out _ _ _ _ _ _, HNO.out.far6 hlt2 _ _ _ _ _ _, ?_, ?_, below_set6 (HB2.out.trans (HCS.out.bw.mono (by omega))) (by omega) _ _ _ _ _ _⟩
      · repeat (refine Own.far ?_ (by exact hlt2) _)
        exact HCS.out.ol
      · repeat (refine Own.far ?_ (by exact hlt2) _)
        exact HCS.out.ot
    case ms =>
      intro D hD
      obtain ⟨m1, m2⟩ := HCS.out.ms D hD
      exact ⟨m1, bl_far6 m2 (by omega) _ _ _ _ _ _⟩
theorem Calm_good (x : Nt) (N : Nat) (v : Value) (w : World) (hV : NetV w v x) (hx : Ok x) (hN : N ≤ 1000) (hlim : x.now + N ≤ 1099511627776) :
    Calls Try.prog 40 #[v, .int .i64 (N : Int)] w fun e w' => ∃ v u t, e = .returned (.tuple #[v, u, t, .int .i64 0]) ∧ NetO w' w.heap.size v (calmX (noCut x) N) ∧ Own w' w.heap.size 33 u (calmL (noCut x) N) ∧ Own w' w.heap.size 86 t (calmT (noCut x) N) ∧ Below w.heap.size w w' :=
  callsIn_wide.1 (calm_in x N v w hV hx hN hlim)
end Go.Proofs.Ythlbmcfliejdiaa
end

section
set_option linter.unusedVariables false
set_option linter.unusedSimpArgs false
namespace Go.Proofs.Ythlbmcfliejdiaa
open Go.RowKit

def calmE (x : Nt) (n : Int) : Int := if checkB x = false then 2 else if n < 0 ∨ 1000 < n then 1 else if 1099511627776 < x.now + n then 3 else 0
def calmRX (x : Nt) (n : Int) : Nt := if calmE x n = 0 then calmX (noCut x) n.toNat else zNt
def calmRL (x : Nt) (n : Int) : List Lt := if calmE x n = 0 then calmL (noCut x) n.toNat else []
def calmRT (x : Nt) (n : Int) : List Tm := if calmE x n = 0 then calmT (noCut x) n.toNat else []
def clmQ (x : Nt) (n : Int) (w : World) (e : Ending) (w' : World) : Prop := ∃ v u t, e = .returned (.tuple #[v, u, t, .int .i64 (calmE x n)]) ∧ NetO w' w.heap.size v (calmRX x n) ∧ Own w' w.heap.size 33 u (calmRL x n) ∧ Own w' w.heap.size 86 t (calmRT x n) ∧ Below w.heap.size w w'
theorem clmQ_err {x : Nt} {n k : Int} (hk : calmE x n = k) (h0 : k ≠ 0) {w : World} {e : Ending} {w' : World} (he : e = .returned (.tuple #[zNetV, .slice none 0 0, .slice none 0 0, .int .i64 k])) (hb : Below w.heap.size w w') : clmQ x n w e w' := by
  subst hk
  refine ⟨_, _, _, he, ?_, ?_, ?_, hb⟩
  · unfold calmRX; rw [if_neg h0]; exact zNetV_own _ _
  · unfold calmRL; rw [if_neg h0]; exact Own.nil _ _ _
  · unfold calmRT; rw [if_neg h0]; exact Own.nil _ _ _

set_option maxHeartbeats 1000000 in
set_option maxRecDepth 100000 in
theorem Calm_form (x : Nt) (n : Int) (v : Value) (w : World) (hlw : x.way.length ≤ 10000000) (hlc : x.cuts.length ≤ 10000000) (hlt : x.timers.length ≤ 10000000) (hV : NetV w v x) (hx : checkB x = false) :
    Calls Try.prog 40 #[v, .int .i64 n] w fun e w' => e = .returned (.tuple #[zNetV, .slice none 0 0, .slice none 0 0, .int .i64 2]) ∧ Below w.heap.size w w' := by
  obtain ⟨AW, cW, AC, cC, AT, cT, rfl, hW, hC, hT⟩ := hV
  have HX := Lib.hid hx
  clear hx
  go_enter Try.func40, Try.ntmps40
  go_wp2
  refine wp_scope_straight ?_
  go_wp2_with fail
  obtain ⟨w2, hw2⟩ : ∃ w2, w2 = (w.alloc (.cells #[.int .i64 x.nodes, .int .i64 x.now, .int .i64 x.next, .slice AW x.way.length cW, .slice AC x.cuts.length cC, .slice AT x.timers.length cT] 26)).alloc (.cells #[.int .i64 0, .int .i64 0, .int .i64 0, .slice none 0 0, .slice none 0 0, .slice none 0 0] 26) := ⟨_, rfl⟩
  rw [← hw2]
  have HB2 : Hid (Below w.heap.size w w2) := by rw [hw2]; exact below_alloc (below_alloc (Below.refl _ _) _) _
  have HZ2 : Hid (w2.heap[w.heap.size + 1]? = some (.cells #[.int .i64 0, .int .i64 0, .int .i64 0, .slice none 0 0, .slice none 0 0, .slice none 0 0] 26 (0, 0))) := by rw [hw2]; exact bl_newZ (by simp)
  clear hw2
  refine calls_below (changing_bad x AW AC AT cW cC cT _ (by omega) (by omega) (by omega) (hW.below HB2.out) (hC.below HB2.out) (hT.below HB2.out) HX.out) ?_
  intro w3 hb3
  have hz := bl_below HZ2.out hb3
  have hlz := bl_lt hz
  obtain ⟨⟨z0, z1, z2, z3, z4, z5⟩, y0, y1, y2, y3, y4, y5⟩ := blc6 hz
  have hbb := below_trans HB2.out hb3
  have HZ := Lib.hid hz
  have HBB := Lib.hid hbb
  clear hz hbb hW hC hT hb3
  go_wp2
  simp only [Exit.noGoto_ret]
  refine bodyPost_ret (res_cttt Try.results40 (w.heap.size + 1) 26 #[.int .i64 0, .int .i64 0, .int .i64 0, .slice none 0 0, .slice none 0 0, .slice none 0 0] _ rfl (bl_all6 HZ.out _ _ _ _ _ _) Try.underlying26 rfl sizeNet rfl rfl rfl) rfl ⟨rfl, below_set6 HBB.out (by omega) _ _ _ _ _ _⟩

set_option maxHeartbeats 1000000 in
set_option maxRecDepth 100000 in
theorem Calm_no (x : Nt) (n k : Int) (v : Value) (w : World) (hV : NetV w v x) (hx : Ok x) (hk : n < 0 ∧ k = 1 ∨ ¬ n < 0 ∧ 1000 < n ∧ k = 1 ∨ ¬ n < 0 ∧ ¬ 1000 < n ∧ 1099511627776 < x.now + n ∧ k = 3) :
    Calls Try.prog 40 #[v, .int .i64 n] w fun e w' => e = .returned (.tuple #[zNetV, .slice none 0 0, .slice none 0 0, .int .i64 k]) ∧ Below w.heap.size w w' := by
  obtain ⟨AW, cW, AC, cC, AT, cT, rfl, hW, hC, hT⟩ := hV
  have hck := (ok_iff x).2 hx
  have h1 := hx.way
  have h2 := hx.cuts256
  have h3 := hx.tms
  have hnow := hx.t0
  have hnow1 := hx.t1
  have HCH : Hid (∀ W, Below w.heap.size w W → Calls Try.prog 45 #[.agg #[.int .i64 x.nodes, .int .i64 x.now, .int .i64 x.next, .slice AW x.way.length cW, .slice AC x.cuts.length cC, .slice AT x.timers.length cT]] W fun e w' => ∃ g, e = .returned (.tuple #[.pointer (some ⟨g, 0, none⟩), .int .i64 0]) ∧ St w' W.heap.size g x ∧ Below W.heap.size W w') := fun W hb => changing_ok x AW AC AT cW cC cT W (by omega) (by omega) (by omega) (hW.below hb) (hC.below hb) (hT.below hb) hck
  clear hW hC hT hck hx
  go_enter Try.func40, Try.ntmps40
  go_wp2
  refine wp_scope_straight ?_
  go_wp2_with fail
  obtain ⟨w2, hw2⟩ : ∃ w2, w2 = (w.alloc (.cells #[.int .i64 x.nodes, .int .i64 x.now, .int .i64 x.next, .slice AW x.way.length cW, .slice AC x.cuts.length cC, .slice AT x.timers.length cT] 26)).alloc (.cells #[.int .i64 0, .int .i64 0, .int .i64 0, .slice none 0 0, .slice none 0 0, .slice none 0 0] 26) := ⟨_, rfl⟩
  rw [← hw2]
  have HB2 : Hid (Below w.heap.size w w2) := by rw [hw2]; exact below_alloc (below_alloc (Below.refl _ _) _) _
  have HZ2 : Hid (w2.heap[w.heap.size + 1]? = some (.cells #[.int .i64 0, .int .i64 0, .int .i64 0, .slice none 0 0, .slice none 0 0, .slice none 0 0] 26 (0, 0))) := by rw [hw2]; exact bl_newZ (by simp)
  have hs2 : w2.heap.size = w.heap.size + 2 := by rw [hw2]; simp
  clear hw2
  refine (HCH.out _ HB2.out).mono ?_
  rintro e w3 ⟨g, rfl, hS3, hb3⟩
  obtain ⟨AW3, cW3, AC3, cC3, AT3, cT3, hg3, hB3, oW3, oC3, oT3⟩ := hS3.open
  obtain ⟨⟨k0, k1, k2, k3, k4, k5⟩, f0, f1, f2, f3, f4, f5⟩ := blc6 hg3
  have hlg := bl_lt hg3
  have hz := bl_below HZ2.out hb3
  have hlz := bl_lt hz
  obtain ⟨⟨z0, z1, z2, z3, z4, z5⟩, y0, y1, y2, y3, y4, y5⟩ := blc6 hz
  have hbb := below_trans HB2.out hb3
  have HZ := Lib.hid hz
  have HBB := Lib.hid hbb
  clear hz hbb hb3 oW3 oC3 oT3 hS3 hg3 f0 f1 f2 f3 f4 f5 hB3
  rcases hk with ⟨c1, rfl⟩ | ⟨c1, c2, rfl⟩ | ⟨c1, c2, c3, rfl⟩
  · have d1 : decide (n < 0) = true := decide_eq_true c1
    clear c1
    go_wp2
    simp only [Exit.noGoto_ret]
    refine bodyPost_ret (res_cttt Try.results40 (w.heap.size + 1) 26 #[.int .i64 0, .int .i64 0, .int .i64 0, .slice none 0 0, .slice none 0 0, .slice none 0 0] _ rfl (bl_all6 HZ.out _ _ _ _ _ _) Try.underlying26 rfl sizeNet rfl rfl rfl) rfl ⟨rfl, below_set6 HBB.out (by omega) _ _ _ _ _ _⟩
  · have d1 : decide (n < 0) = false := decide_eq_false (by omega)
    have d2 : decide (1000 < n) = true := decide_eq_true c2
    clear c1 c2
    go_wp2
    simp only [Exit.noGoto_ret]
    refine bodyPost_ret (res_cttt Try.results40 (w.heap.size + 1) 26 #[.int .i64 0, .int .i64 0, .int .i64 0, .slice none 0 0, .slice none 0 0, .slice none 0 0] _ rfl (bl_all6 HZ.out _ _ _ _ _ _) Try.underlying26 rfl sizeNet rfl rfl rfl) rfl ⟨rfl, below_set6 HBB.out (by omega) _ _ _ _ _ _⟩
  · have d1 : decide (n < 0) = false := decide_eq_false (by omega)
    have d2 : decide (1000 < n) = false := decide_eq_false (by omega)
    have hwr : IntKind.i64.wrap (x.now + n) = x.now + n := IntWalk.i64_in _ (by omega)
    have d3 : decide (1099511627776 < x.now + n) = true := decide_eq_true c3
    clear c1 c2 c3
    go_wp2
    simp only [Exit.noGoto_ret]
    refine bodyPost_ret (res_cttt Try.results40 (w.heap.size + 1) 26 #[.int .i64 0, .int .i64 0, .int .i64 0, .slice none 0 0, .slice none 0 0, .slice none 0 0] _ rfl (bl_all6 HZ.out _ _ _ _ _ _) Try.underlying26 rfl sizeNet rfl rfl rfl) rfl ⟨rfl, below_set6 HBB.out (by omega) _ _ _ _ _ _⟩
theorem Calm_any (x : Nt) (n : Int) (v : Value) (w : World) (hlw : x.way.length ≤ 10000000) (hlc : x.cuts.length ≤ 10000000) (hlt : x.timers.length ≤ 10000000) (hV : NetV w v x) : Calls Try.prog 40 #[v, .int .i64 n] w (clmQ x n w) := by
  cases hc : checkB x
  · exact (Calm_form x n v w hlw hlc hlt hV hc).mono fun e w' h => clmQ_err (by unfold calmE; rw [if_pos hc]) (by decide) h.1 h.2
  · have hx := (ok_iff x).1 hc
    have hnc : ¬ checkB x = false := by rw [hc]; decide
    by_cases c1 : n < 0
    · exact (Calm_no x n 1 v w hV hx (.inl ⟨c1, rfl⟩)).mono fun e w' h => clmQ_err (by unfold calmE; rw [if_neg hnc, if_pos (.inl c1)]) (by decide) h.1 h.2
    · by_cases c2 : 1000 < n
      · exact (Calm_no x n 1 v w hV hx (.inr (.inl ⟨c1, c2, rfl⟩))).mono fun e w' h => clmQ_err (by unfold calmE; rw [if_neg hnc, if_pos (.inr c2)]) (by decide) h.1 h.2
      · by_cases c3 : 1099511627776 < x.now + n
        · exact (Calm_no x n 3 v w hV hx (.inr (.inr ⟨c1, c2, c3, rfl⟩))).mono fun e w' h => clmQ_err (by unfold calmE; rw [if_neg hnc, if_neg (by omega), if_pos c3]) (by decide) h.1 h.2
        · obtain ⟨N, rfl⟩ := Int.eq_ofNat_of_zero_le (show 0 ≤ n by omega)
          have h0 : calmE x (N : Int) = 0 := by unfold calmE; rw [if_neg hnc, if_neg (by omega), if_neg c3]
          refine (Calm_good x N v w hV hx (by omega) (by omega)).mono fun e w' h => ?_
          obtain ⟨v, u, t, he, h1, h2, h3, h4⟩ := h
          refine ⟨v, u, t, by rw [h0]; exact he, ?_, ?_, ?_, h4⟩
          · unfold calmRX; rw [if_pos h0]; exact h1
          · unfold calmRL; rw [if_pos h0]; exact h2
          · unfold calmRT; rw [if_pos h0]; exact h3
end Go.Proofs.Ythlbmcfliejdiaa
end

section
set_option linter.unusedVariables false
set_option linter.unusedSimpArgs false
namespace Go.Proofs.Ythlbmcfliejdiaa
open Go.RowKit
attribute [local go_sem high] eqATm eqALt eqAAc eqALk

/-- The loops' bodies of a code, those that stand in no other loop. -/
def loopsIn : Code → List Code
  | .loop c => [c]
  | .seq a b => loopsIn a ++ loopsIn b
  | .block _ c => loopsIn c
  | .scope c => loopsIn c
  | .cond _ a b => loopsIn a ++ loopsIn b
  | _ => []
noncomputable def calmsOut : Code := ((Try.f10.body.bind fun c => (loopsIn c)[0]?).getD .skip)
noncomputable def calmsB1 : Code := ((loopsIn calmsOut)[0]?).getD .skip
noncomputable def calmsB2 : Code := ((loopsIn calmsOut)[1]?).getD .skip
set_option maxRecDepth 100000 in
theorem stm_all (f : Nat → Value) : st 180 f = ⟨#[f 0, f 1, f 2, f 3, f 4, f 5, f 6, f 7, f 8, f 9, f 10, f 11, f 12, f 13, f 14, f 15, f 16, f 17, f 18, f 19, f 20, f 21, f 22, f 23, f 24, f 25, f 26, f 27, f 28, f 29, f 30, f 31, f 32, f 33, f 34, f 35, f 36, f 37, f 38, f 39, f 40, f 41, f 42, f 43, f 44, f 45, f 46, f 47, f 48, f 49, f 50, f 51, f 52, f 53, f 54, f 55, f 56, f 57, f 58, f 59, f 60, f 61, f 62, f 63, f 64, f 65, f 66, f 67, f 68, f 69, f 70, f 71, f 72, f 73, f 74, f 75, f 76, f 77, f 78, f 79, f 80, f 81, f 82, f 83, f 84, f 85, f 86, f 87, f 88, f 89, f 90, f 91, f 92, f 93, f 94, f 95, f 96, f 97, f 98, f 99, f 100, f 101, f 102, f 103, f 104, f 105, f 106, f 107, f 108, f 109, f 110, f 111, f 112, f 113, f 114, f 115, f 116, f 117, f 118, f 119, f 120, f 121, f 122, f 123, f 124, f 125, f 126, f 127, f 128, f 129, f 130, f 131, f 132, f 133, f 134, f 135, f 136, f 137, f 138, f 139, f 140, f 141, f 142, f 143, f 144, f 145, f 146, f 147, f 148, f 149, f 150, f 151, f 152, f 153, f 154, f 155, f 156, f 157, f 158, f 159, f 160, f 161, f 162, f 163, f 164, f 165, f 166, f 167, f 168, f 169, f 170, f 171, f 172, f 173, f 174, f 175, f 176, f 177, f 178, f 179], []⟩ := by
  have h : List.range 180 = [0, 1, 2, 3, 4, 5, 6, 7, 8, 9, 10, 11, 12, 13, 14, 15, 16, 17, 18, 19, 20, 21, 22, 23, 24, 25, 26, 27, 28, 29, 30, 31, 32, 33, 34, 35, 36, 37, 38, 39, 40, 41, 42, 43, 44, 45, 46, 47, 48, 49, 50, 51, 52, 53, 54, 55, 56, 57, 58, 59, 60, 61, 62, 63, 64, 65, 66, 67, 68, 69, 70, 71, 72, 73, 74, 75, 76, 77, 78, 79, 80, 81, 82, 83, 84, 85, 86, 87, 88, 89, 90, 91, 92, 93, 94, 95, 96, 97, 98, 99, 100, 101, 102, 103, 104, 105, 106, 107, 108, 109, 110, 111, 112, 113, 114, 115, 116, 117, 118, 119, 120, 121, 122, 123, 124, 125, 126, 127, 128, 129, 130, 131, 132, 133, 134, 135, 136, 137, 138, 139, 140, 141, 142, 143, 144, 145, 146, 147, 148, 149, 150, 151, 152, 153, 154, 155, 156, 157, 158, 159, 160, 161, 162, 163, 164, 165, 166, 167, 168, 169, 170, 171, 172, 173, 174, 175, 176, 177, 178, 179] := by decide +kernel
  unfold st
  rw [h]
  rfl
theorem count_snoc {xs : List Lt} {k : Nat} {m : Lt} (h : Hid (xs[k]? = some m)) (l : Lt) : (xs.take (k + 1)).count l = (xs.take k).count l + if m = l then 1 else 0 := by
  rw [List.take_add_one, h.out, List.count_append]
  by_cases e : m = l
  · rw [if_pos e]; simp [e]
  · rw [if_neg e]; simp [e]
theorem filt_snoc {α : Type} (p : α → Bool) {xs : List α} {k : Nat} {m : α} (h : Hid (xs[k]? = some m)) : ((xs.take (k + 1)).filter p).length = ((xs.take k).filter p).length + if p m = true then 1 else 0 := by
  rw [List.take_add_one, h.out, List.filter_append, List.length_append]
  cases hp : p m <;> simp [hp]
/-- Counting in the network's letters. -/
def cbI (x : Nt) (l : Lt) (v1 v2 v3 v4 v9 v10 v13 v14 v15 : Value) (w3 : World) (a : Act) (wr : World) : Prop :=
  ∃ f, a = st 180 f ∧ ∃ k : Nat, k ≤ x.way.length ∧ f 1 = v1 ∧ f 2 = v2 ∧ f 3 = v3 ∧ f 4 = v4 ∧ f 9 = v9 ∧ f 10 = v10 ∧ f 13 = v13 ∧ f 14 = v14 ∧ f 15 = v15 ∧ f 16 = .int .i64 (((x.way.take k).count l : Nat) : Int) ∧ f 17 = .int .i64 0 ∧ f 18 = .int .i64 (k : Int) ∧ Hid (Below w3.heap.size w3 wr)
def cbMu (n : Nat) (a : Act) (_ : World) : Nat := n - (intOf (a.tmps.getD 18 undef)).toNat
set_option maxHeartbeats 4000000 in
set_option maxRecDepth 100000 in
theorem calms_cb (x : Nt) (g4 i : Nat) (l : Lt) (v1 v2 v3 v9 v10 v13 v14 : Value) (w3 wr : World) (f : Nat → Value) (Q0 : Exit → Act → World → Prop) (k : Nat) (AW AC AT : Option Addr) (cW cC cT : Nat) (hlw : x.way.length ≤ 250) (hlk : k < x.way.length) (hi : i < x.way.length)
    (HZ3 : Hid (w3.heap[g4]? = some (.cells #[.int .i64 x.nodes, .int .i64 x.now, .int .i64 x.next, .slice AW x.way.length cW, .slice AC x.cuts.length cC, .slice AT x.timers.length cT] 26 (0, 0)))) (HRW : Hid (Rd w3 AW x.way)) (HL : Hid (x.way[i]? = some l))
    (h1 : f 1 = v1) (h2 : f 2 = v2) (h3 : f 3 = v3) (h4 : f 4 = .pointer (some ⟨g4, 0, none⟩)) (h9 : f 9 = v9) (h10 : f 10 = v10) (h13 : f 13 = v13) (h14 : f 14 = v14) (h15 : f 15 = .int .i64 (i : Int)) (h16 : f 16 = .int .i64 (((x.way.take k).count l : Nat) : Int)) (h17 : f 17 = .int .i64 0) (h18 : f 18 = .int .i64 (k : Int))
    (hB : Hid (Below w3.heap.size w3 wr)) :
    calmsB1.wp Try.prog (Exit.then (fun a' w' => cbI x l v1 v2 v3 (.pointer (some ⟨g4, 0, none⟩)) v9 v10 v13 v14 (.int .i64 (i : Int)) w3 a' w' ∧ cbMu x.way.length a' w' < cbMu x.way.length (st 180 f) wr) Q0) (st 180 f) wr := by
  conv => arg 2; whnf
  have hmu : Hid (cbMu x.way.length (st 180 f) wr = x.way.length - k) := by
    show _ = _
    unfold cbMu
    rw [st_getD (by decide), h18]; rfl
  rw [hmu.out]
  rw [stm_all, h1, h2, h3, h4, h9, h10, h13, h14, h15, h16, h17, h18]
  clear h1 h2 h3 h4 h9 h10 h13 h14 h15 h16 h17 h18
  have hz := bl_below HZ3.out hB.out
  obtain ⟨⟨k0, k1, k2, k3, k4, k5⟩, -⟩ := blc6 hz
  have hlz := bl_lt hz
  obtain ⟨b, off, m, rfl, hm, c0, c1, c2, c3, c4⟩ := (HRW.out.below hB.out).lt k hlk
  obtain ⟨b2, off2, l', hA, hl', d0, d1, d2, d3, d4⟩ := (HRW.out.below hB.out).lt i hi
  cases hA
  obtain rfl : l = l' := Option.some.inj (HL.out.symm.trans hl'.out)
  have hcs := count_snoc hm l
  obtain ⟨c, hc⟩ : ∃ c, c = (x.way.take k).count l := ⟨_, rfl⟩
  have hcl : c ≤ 250 := by
    rw [hc]
    exact Nat.le_trans List.count_le_length (Nat.le_trans (List.length_take_le _ _) (by omega))
  rw [← hc] at hcs ⊢
  clear hc hz hl'
  by_cases hml : m = l
  · rw [if_pos hml] at hcs
    have HCS := Lib.hid hcs
    clear hcs
    subst hml
    go_wp2
    go_quiet (fail)
    go_wp2
    refine ⟨⟨_, st_of 180 (by rfl), k + 1, by omega, rfl, rfl, rfl, rfl, rfl, rfl, rfl, rfl, rfl, ?_, rfl, by show _ = Value.int .i64 _; go_num, below_drewN hB.out _⟩, ?_⟩
    · rw [HCS.out]; show Value.int .i64 _ = Value.int .i64 _; go_num
    · show x.way.length - (intOf (.int .i64 ((k : Int) + 1))).toNat < x.way.length - k
      simp [intOf]; omega
  · rw [if_neg hml] at hcs
    have HCS := Lib.hid hcs
    have hq := lt_ne hml
    have hq1 := (lt_eq m l).trans (decide_eq_false hml)
    have HML := Lib.hid hml
    clear hcs hml
    go_wp2
    go_quiet (fail)
    go_wp2
    refine ⟨⟨_, st_of 180 (by rfl), k + 1, by omega, rfl, rfl, rfl, rfl, rfl, rfl, rfl, rfl, rfl, ?_, rfl, by show _ = Value.int .i64 _; go_num, below_drewN hB.out _⟩, ?_⟩
    · rw [HCS.out]; rfl
    · show x.way.length - (intOf (.int .i64 ((k : Int) + 1))).toNat < x.way.length - k
      simp [intOf]; omega
/-- Counting in what was delivered. -/
def cfI (L : List Lt) (l : Lt) (v1 v2 v3 v4 v9 v10 v13 v14 v15 v16 : Value) (w3 : World) (a : Act) (wr : World) : Prop :=
  ∃ f, a = st 180 f ∧ ∃ k : Nat, k ≤ L.length ∧ f 1 = v1 ∧ f 2 = v2 ∧ f 3 = v3 ∧ f 4 = v4 ∧ f 9 = v9 ∧ f 10 = v10 ∧ f 13 = v13 ∧ f 14 = v14 ∧ f 15 = v15 ∧ f 16 = v16 ∧ f 17 = .int .i64 (((L.take k).count l : Nat) : Int) ∧ f 19 = .int .i64 (k : Int) ∧ Hid (Below w3.heap.size w3 wr)
def cfMu (n : Nat) (a : Act) (_ : World) : Nat := n - (intOf (a.tmps.getD 19 undef)).toNat
set_option maxHeartbeats 4000000 in
set_option maxRecDepth 100000 in
theorem calms_cf (x : Nt) (L : List Lt) (g4 i : Nat) (l : Lt) (v1 v2 v3 v9 v13 v14 v16 : Value) (w3 wr : World) (f : Nat → Value) (Q0 : Exit → Act → World → Prop) (k : Nat) (AW AC AT AL : Option Addr) (cW cC cT cL : Nat) (hlw : L.length ≤ 250) (hlk : k < L.length) (hi : i < x.way.length) (hxw : x.way.length ≤ 250)
    (HZ3 : Hid (w3.heap[g4]? = some (.cells #[.int .i64 x.nodes, .int .i64 x.now, .int .i64 x.next, .slice AW x.way.length cW, .slice AC x.cuts.length cC, .slice AT x.timers.length cT] 26 (0, 0)))) (HRW : Hid (Rd w3 AW x.way)) (HRL : Hid (Rd w3 AL L)) (HL : Hid (x.way[i]? = some l))
    (h1 : f 1 = v1) (h2 : f 2 = v2) (h3 : f 3 = v3) (h4 : f 4 = .pointer (some ⟨g4, 0, none⟩)) (h9 : f 9 = v9) (h10 : f 10 = .slice AL L.length cL) (h13 : f 13 = v13) (h14 : f 14 = v14) (h15 : f 15 = .int .i64 (i : Int)) (h16 : f 16 = v16) (h17 : f 17 = .int .i64 (((L.take k).count l : Nat) : Int)) (h19 : f 19 = .int .i64 (k : Int))
    (hB : Hid (Below w3.heap.size w3 wr)) :
    calmsB2.wp Try.prog (Exit.then (fun a' w' => cfI L l v1 v2 v3 (.pointer (some ⟨g4, 0, none⟩)) v9 (.slice AL L.length cL) v13 v14 (.int .i64 (i : Int)) v16 w3 a' w' ∧ cfMu L.length a' w' < cfMu L.length (st 180 f) wr) Q0) (st 180 f) wr := by
  conv => arg 2; whnf
  have hmu : Hid (cfMu L.length (st 180 f) wr = L.length - k) := by
    show _ = _
    unfold cfMu
    rw [st_getD (by decide), h19]; rfl
  rw [hmu.out]
  rw [stm_all, h1, h2, h3, h4, h9, h10, h13, h14, h15, h16, h17, h19]
  clear h1 h2 h3 h4 h9 h10 h13 h14 h15 h16 h17 h19
  have hz := bl_below HZ3.out hB.out
  obtain ⟨⟨k0, k1, k2, k3, k4, k5⟩, -⟩ := blc6 hz
  have hlz := bl_lt hz
  obtain ⟨b, off, m, rfl, hm, c0, c1, c2, c3, c4⟩ := (HRL.out.below hB.out).lt k hlk
  obtain ⟨b2, off2, l', rfl, hl', d0, d1, d2, d3, d4⟩ := (HRW.out.below hB.out).lt i hi
  obtain rfl : l = l' := Option.some.inj (HL.out.symm.trans hl'.out)
  have hcs := count_snoc hm l
  obtain ⟨c, hc⟩ : ∃ c, c = (L.take k).count l := ⟨_, rfl⟩
  have hcl : c ≤ 250 := by
    rw [hc]
    exact Nat.le_trans List.count_le_length (Nat.le_trans (List.length_take_le _ _) (by omega))
  rw [← hc] at hcs ⊢
  clear hc hz hl'
  by_cases hml : m = l
  · rw [if_pos hml] at hcs
    have HCS := Lib.hid hcs
    clear hcs
    subst hml
    go_wp2
    go_quiet (fail)
    go_wp2
    refine ⟨⟨_, st_of 180 (by rfl), k + 1, by omega, rfl, rfl, rfl, rfl, rfl, rfl, rfl, rfl, rfl, rfl, ?_, by show _ = Value.int .i64 _; go_num, below_drewN hB.out _⟩, ?_⟩
    · rw [HCS.out]; show Value.int .i64 _ = Value.int .i64 _; go_num
    · show L.length - (intOf (.int .i64 ((k : Int) + 1))).toNat < L.length - k
      simp [intOf]; omega
  · rw [if_neg hml] at hcs
    have HCS := Lib.hid hcs
    have hq := lt_ne hml
    have hq1 := (lt_eq m l).trans (decide_eq_false hml)
    have HML := Lib.hid hml
    clear hcs hml
    go_wp2
    go_quiet (fail)
    go_wp2
    refine ⟨⟨_, st_of 180 (by rfl), k + 1, by omega, rfl, rfl, rfl, rfl, rfl, rfl, rfl, rfl, rfl, rfl, ?_, by show _ = Value.int .i64 _; go_num, below_drewN hB.out _⟩, ?_⟩
    · rw [HCS.out]; rfl
    · show L.length - (intOf (.int .i64 ((k : Int) + 1))).toNat < L.length - k
      simp [intOf]; omega
/-- Letter by letter. -/
def coI (x : Nt) (n : Nat) (v2 v3 v4 v9 v10 : Value) (w3 : World) (a : Act) (wr : World) : Prop :=
  ∃ f, a = st 180 f ∧ ∃ i : Nat, i ≤ x.way.length ∧ f 1 = .int .i64 (n : Int) ∧ f 2 = v2 ∧ f 3 = v3 ∧ f 4 = v4 ∧ f 9 = v9 ∧ f 10 = v10 ∧ f 13 = .int .i64 ((((x.way.take i).filter (stayB x n)).length : Nat) : Int) ∧ f 14 = .int .i64 ((((x.way.take i).filter (fun l => !stayB x n l)).length : Nat) : Int) ∧ f 15 = .int .i64 (i : Int) ∧ Hid (Below w3.heap.size w3 wr)
def coMu (n : Nat) (a : Act) (_ : World) : Nat := n - (intOf (a.tmps.getD 15 undef)).toNat
theorem filt_le {α : Type} (p : α → Bool) (xs : List α) (i : Nat) : ((xs.take i).filter p).length ≤ i := Nat.le_trans (List.length_filter_le _ _) (List.length_take_le _ _)
set_option maxHeartbeats 4000000 in
set_option maxRecDepth 100000 in
theorem calms_co (x : Nt) (L : List Lt) (g4 n : Nat) (v2 v3 v9 : Value) (w3 wr : World) (f : Nat → Value) (Q0 : Exit → Act → World → Prop) (i : Nat) (AW AC AT AL : Option Addr) (cW cC cT cL : Nat) (hlw : x.way.length ≤ 250) (hll : L.length ≤ 250) (hi : i < x.way.length) (hn : n ≤ 1000) (hnow : 0 ≤ x.now) (hlim : x.now + n ≤ 1099511627776)
    (HZ3 : Hid (w3.heap[g4]? = some (.cells #[.int .i64 x.nodes, .int .i64 x.now, .int .i64 x.next, .slice AW x.way.length cW, .slice AC x.cuts.length cC, .slice AT x.timers.length cT] 26 (0, 0)))) (HRW : Hid (Rd w3 AW x.way)) (HRL : Hid (Rd w3 AL L)) (HCN : Hid (∀ l, stayB x n l = false → L.count l = x.way.count l))
    (h1 : f 1 = .int .i64 (n : Int)) (h2 : f 2 = v2) (h3 : f 3 = v3) (h4 : f 4 = .pointer (some ⟨g4, 0, none⟩)) (h9 : f 9 = v9) (h10 : f 10 = .slice AL L.length cL) (h13 : f 13 = .int .i64 ((((x.way.take i).filter (stayB x n)).length : Nat) : Int)) (h14 : f 14 = .int .i64 ((((x.way.take i).filter (fun l => !stayB x n l)).length : Nat) : Int)) (h15 : f 15 = .int .i64 (i : Int))
    (hB : Hid (Below w3.heap.size w3 wr)) :
    calmsOut.wp Try.prog (Exit.then (fun a' w' => coI x n v2 v3 (.pointer (some ⟨g4, 0, none⟩)) v9 (.slice AL L.length cL) w3 a' w' ∧ coMu x.way.length a' w' < coMu x.way.length (st 180 f) wr) Q0) (st 180 f) wr := by
  conv => arg 2; whnf
  have hmu : Hid (coMu x.way.length (st 180 f) wr = x.way.length - i) := by
    show _ = _
    unfold coMu
    rw [st_getD (by decide), h15]; rfl
  rw [hmu.out]
  rw [stm_all, h1, h2, h3, h4, h9, h10, h13, h14, h15]
  clear h1 h2 h3 h4 h9 h10 h13 h14 h15
  have hz := bl_below HZ3.out hB.out
  obtain ⟨⟨k0, k1, k2, k3, k4, k5⟩, -⟩ := blc6 hz
  have hlz := bl_lt hz
  have HRWB := Lib.hid HRW.out
  obtain ⟨b, off, l, hAW, hl, c0, c1, c2, c3, c4⟩ := (HRW.out.below hB.out).lt i hi
  have hsn := filt_snoc (stayB x n) hl
  have hgn := filt_snoc (fun l => !stayB x n l) hl
  have hf1 := filt_le (stayB x n) x.way i
  have hf2 := filt_le (fun l => !stayB x n l) x.way i
  obtain ⟨nl, hnl⟩ : ∃ c, c = ((x.way.take i).filter (stayB x n)).length := ⟨_, rfl⟩
  obtain ⟨ng, hng⟩ : ∃ c, c = ((x.way.take i).filter (fun l => !stayB x n l)).length := ⟨_, rfl⟩
  rw [← hnl] at hsn hf1 ⊢
  rw [← hng] at hgn hf2 ⊢
  clear hnl hng hz
  have hwr : IntKind.i64.wrap (x.now + (n : Int)) = x.now + (n : Int) := IntWalk.i64_in _ (by omega)
  cases hst : stayB x n l
  rotate_left 1
  · have q : n = 0 ∨ (¬ n = 0 ∧ x.now + n ≤ l.rd) := by
      unfold stayB at hst
      simp only [Bool.or_eq_true, decide_eq_true_eq] at hst
      omega
    simp only [hst, Bool.not_true, Bool.not_false, Bool.false_eq_true, if_true, if_false, ↓reduceIte, Nat.add_zero] at hsn hgn
    have HSN := Lib.hid hsn
    have HGN := Lib.hid hgn
    have HLI := hl
    clear hsn hgn hst hl
    subst hAW
    rcases q with rfl | ⟨q1, q2⟩
    · have q0 : (((0 : Nat) : Int) == 0) = true := rfl
      go_wp2
      go_quiet (fail)
      go_wp2
      refine ⟨⟨_, st_of 180 (by rfl), i + 1, by omega, rfl, rfl, rfl, rfl, rfl, rfl, ?_, ?_, by show _ = Value.int .i64 _; go_num, below_drewN hB.out _⟩, ?_⟩
      · rw [HSN.out]; show Value.int .i64 _ = Value.int .i64 _; go_num
      · rw [HGN.out]; rfl
      · show x.way.length - (intOf (.int .i64 ((i : Int) + 1))).toNat < x.way.length - i
        simp [intOf]; omega
    · have q0 : ((n : Int) == 0) = false := beq_eq_false_iff_ne.2 (by omega)
      have d1 : decide (x.now + (n : Int) ≤ l.rd) = true := decide_eq_true q2
      clear q1 q2
      go_wp2
      go_quiet (fail)
      go_wp2
      refine ⟨⟨_, st_of 180 (by rfl), i + 1, by omega, rfl, rfl, rfl, rfl, rfl, rfl, ?_, ?_, by show _ = Value.int .i64 _; go_num, below_drewN hB.out _⟩, ?_⟩
      · rw [HSN.out]; show Value.int .i64 _ = Value.int .i64 _; go_num
      · rw [HGN.out]; rfl
      · show x.way.length - (intOf (.int .i64 ((i : Int) + 1))).toNat < x.way.length - i
        simp [intOf]; omega
  · have q : ¬ n = 0 ∧ ¬ x.now + n ≤ l.rd := by
      unfold stayB at hst
      simp only [Bool.or_eq_false_iff, decide_eq_false_iff_not] at hst
      omega
    have hcn := HCN.out l hst
    simp only [hst, Bool.not_true, Bool.not_false, Bool.false_eq_true, if_true, if_false, ↓reduceIte, Nat.add_zero] at hsn hgn
    have HSN := Lib.hid hsn
    have HGN := Lib.hid hgn
    have HLI := hl
    have HCL := Lib.hid hcn
    have q0 : ((n : Int) == 0) = false := beq_eq_false_iff_ne.2 (by omega)
    have d1 : decide (x.now + (n : Int) ≤ l.rd) = false := decide_eq_false q.2
    clear hsn hgn hst hl hcn q
    subst hAW
    go_wp2
    go_quiet (fail)
    go_wp2
    generalize hw8 : wr.drewN _ = w8
    have hB8 : Hid (Below w3.heap.size w3 w8) := by rw [← hw8]; exact below_drewN hB.out _
    clear hw8 k0 k1 k2 k3 k4 k5 c0 c1 c2 c3 c4 hlz q0 d1 hwr hB
    refine wp_st 180 (by rfl) fun f0 hf0 => ?_
    refine wp_loop (cbI x l (.int .i64 (n : Int)) v2 v3 (.pointer (some ⟨g4, 0, none⟩)) v9 (.slice AL L.length cL) (.int .i64 (nl : Int)) (.int .i64 ((ng : Int) + 1)) (.int .i64 (i : Int)) w3) (cbMu x.way.length) ⟨f0, rfl, 0, Nat.zero_le _, (hf0 1).trans rfl, (hf0 2).trans rfl, (hf0 3).trans rfl, (hf0 4).trans rfl, (hf0 9).trans rfl, (hf0 10).trans rfl, (hf0 13).trans rfl, (hf0 14).trans rfl, (hf0 15).trans rfl, (hf0 16).trans rfl, (hf0 17).trans rfl, (hf0 18).trans rfl, hB8⟩ ?_
    clear hf0 f0 hB8
    rintro a wq ⟨f, rfl, k, hk, h1, h2, h3, h4, h9, h10, h13, h14, h15, h16, h17, h18, hB9⟩
    by_cases hlk : k < x.way.length
    · exact calms_cb x g4 i l _ _ _ _ _ _ _ w3 wq f _ k (some ⟨b, off, none⟩) AC AT cW cC cT hlw hlk hi HZ3 HRWB HLI h1 h2 h3 h4 h9 h10 h13 h14 h15 h16 h17 h18 hB9
    obtain rfl : k = x.way.length := by omega
    rw [List.take_length] at h16
    have hcl : x.way.count l ≤ 250 := Nat.le_trans List.count_le_length hlw
    obtain ⟨c, hc⟩ : ∃ c, c = x.way.count l := ⟨_, rfl⟩
    rw [← hc] at h16 hcl
    have hcL : Hid (L.count l = c) := by show _ = _; rw [hc]; exact HCL.out
    clear hc HCL
    have hz := bl_below HZ3.out hB9.out
    obtain ⟨⟨k0, k1, k2, k3, k4, k5⟩, -⟩ := blc6 hz
    have hlz := bl_lt hz
    clear hz
    rw [stm_all, h1, h2, h3, h4, h9, h10, h13, h14, h15, h16, h17, h18]
    clear h1 h2 h3 h4 h9 h10 h13 h14 h15 h16 h17 h18
    go_wp2
    clear k0 k1 k2 k3 k4 k5 hlz
    refine wp_st 180 (by rfl) fun f0 hf0 => ?_
    refine wp_loop (cfI L l (.int .i64 (n : Int)) v2 v3 (.pointer (some ⟨g4, 0, none⟩)) v9 (.slice AL L.length cL) (.int .i64 (nl : Int)) (.int .i64 ((ng : Int) + 1)) (.int .i64 (i : Int)) (.int .i64 (c : Int)) w3) (cfMu L.length) ⟨f0, rfl, 0, Nat.zero_le _, (hf0 1).trans rfl, (hf0 2).trans rfl, (hf0 3).trans rfl, (hf0 4).trans rfl, (hf0 9).trans rfl, (hf0 10).trans rfl, (hf0 13).trans rfl, (hf0 14).trans rfl, (hf0 15).trans rfl, (hf0 16).trans rfl, (hf0 17).trans rfl, (hf0 19).trans rfl, hB9⟩ ?_
    clear hf0 f0 hB9 hlk hk
    rintro a wq ⟨f, rfl, k, hk, h1, h2, h3, h4, h9, h10, h13, h14, h15, h16, h17, h19, hB9⟩
    by_cases hlk : k < L.length
    · exact calms_cf x L g4 i l _ _ _ _ _ _ _ w3 wq f _ k (some ⟨b, off, none⟩) AC AT AL cW cC cT cL hll hlk hi hlw HZ3 HRWB HRL HLI h1 h2 h3 h4 h9 h10 h13 h14 h15 h16 h17 h19 hB9
    obtain rfl : k = L.length := by omega
    rw [List.take_length, hcL.out] at h17
    rw [stm_all, h1, h2, h3, h4, h9, h10, h13, h14, h15, h16, h17, h19]
    clear h1 h2 h3 h4 h9 h10 h13 h14 h15 h16 h17 h19
    go_wp2
    refine ⟨⟨_, st_of 180 (by rfl), i + 1, by omega, rfl, rfl, rfl, rfl, rfl, rfl, ?_, ?_, by show _ = Value.int .i64 _; go_num, hB9⟩, ?_⟩
    · rw [HSN.out]; rfl
    · rw [HGN.out]; show Value.int .i64 _ = Value.int .i64 _; go_num
    · show x.way.length - (intOf (.int .i64 ((i : Int) + 1))).toNat < x.way.length - i
      simp [intOf]; omega
/-- Calm's answer without an error. -/
theorem calm_facts {x : Nt} {n : Int} (h0 : calmE x n = 0) : ∃ N : Nat, n = N ∧ N ≤ 1000 ∧ Ok x ∧ x.now + N ≤ 1099511627776 ∧ (calmRX x n).way.length = (x.way.filter (stayB x N)).length ∧ (calmRL x n).length = (x.way.filter (fun l => !stayB x N l)).length ∧ (calmRX x n).now = x.now + N ∧ (calmRX x n).cuts = [] ∧
    (∀ l, stayB x N l = false → (calmRL x n).count l = x.way.count l) ∧ (calmRL x n).length ≤ 250 := by
  have h1 := h0
  unfold calmE at h1
  split at h1
  · exact absurd h1 (by decide)
  rename_i c0
  split at h1
  · exact absurd h1 (by decide)
  rename_i c1
  split at h1
  · exact absurd h1 (by decide)
  rename_i c2
  obtain ⟨N, rfl⟩ := Int.eq_ofNat_of_zero_le (show 0 ≤ n by omega)
  have hx : Ok x := (ok_iff x).1 (by simpa using c0)
  have hx' := nocut_ok hx
  have hlim : (noCut x).now + (N : Int) ≤ 1099511627776 := by show x.now + _ ≤ _; omega
  obtain ⟨l1, l2⟩ := calm_left hx' N hlim
  obtain ⟨a1, a2, a3, -⟩ := calm_at hx' N hlim
  unfold calmRX calmRL
  rw [if_pos h0, if_pos h0, Int.toNat_natCast]
  refine ⟨N, rfl, by omega, hx, by omega, l1, l2, a2, a3, fun l hl => calm_count hx' N hlim l hl, ?_⟩
  rw [l2]
  exact Nat.le_trans (List.length_filter_le _ _) (by have := hx.way; show x.way.length ≤ 250; omega)
set_option maxHeartbeats 8000000 in
set_option maxRecDepth 100000 in
theorem NetCalms_any (x : Nt) (n nodes : Int) (xs : List Ac) (A : Option Addr) (c : Nat) (v : Value) (w : World) (hV : NetV w v x) (hlw : x.way.length ≤ 9223372036854775807) (hlc : x.cuts.length ≤ 9223372036854775807) (hlt : x.timers.length ≤ 9223372036854775807) (hR : Rd w A xs) (hl : xs.length ≤ 9223372036854775807) :
    Calls Try.prog 10 #[v, .int .i64 n, .int .i64 nodes, .slice A xs.length c] w fun e w' => e = .returned (.bool true) ∧ Below w.heap.size w w' := by
  obtain ⟨AW1, cW1, AC1, cC1, AT1, cT1, rfl, hW, hC, hT⟩ := hV
  have HV : Hid (∀ W, Below w.heap.size w W → NetV W (.agg #[.int .i64 x.nodes, .int .i64 x.now, .int .i64 x.next, .slice AW1 x.way.length cW1, .slice AC1 x.cuts.length cC1, .slice AT1 x.timers.length cT1]) x) := fun W hb => ⟨AW1, cW1, AC1, cC1, AT1, cT1, rfl, hW.below hb, hC.below hb, hT.below hb⟩
  have HWW := Lib.hid hW
  have HR := Lib.hid hR
  clear hW hC hT hR
  have hsm := fun (v : Value) (w : World) (hV : NetV w v x) => small_any x v w hV hlw hlc hlt
  have hfw := fun (w : World) (hR : Rd w A xs) => few_any A c xs 200 w hR hl
  cases hs : smallB x
  · rw [hs] at hsm
    have HS := Lib.hid hsm
    clear hsm hs hfw
    go_enter Try.func10, Try.ntmps10
    go_wp2_with (first
      | (go_at_call 12; refine calls_below (HS.out _ _ (HV.out _ (below_alloc (Below.refl _ _) _))) ?_; intro w1 hb1)
      | (go_at_call 13; refine calls_below (sane_any _) ?_; intro w2 hb2))
    go_ret
    exact ⟨rfl, below_trans (below_alloc (Below.refl _ _) _) (below_trans hb1 hb2)⟩
  rw [hs] at hsm
  have hln := small_lens hs
  have HS := Lib.hid hsm
  have HL := Lib.hid hln
  clear hsm hs hln hlw hlc hlt
  cases hf : fewB xs 200
  · rw [hf] at hfw
    have HFW := Lib.hid hfw
    clear hfw hf
    go_enter Try.func10, Try.ntmps10
    go_wp2_with (first
      | (go_at_call 12; refine calls_below (HS.out _ _ (HV.out _ (below_alloc (Below.refl _ _) _))) ?_; intro w1 hb1; have hw1 := below_trans (below_alloc (Below.refl w.heap.size w) _) hb1)
      | (go_at_call 21; refine calls_below (HFW.out _ (HR.out.below hw1)) ?_; intro w2 hb2)
      | (go_at_call 13; refine calls_below (sane_any _) ?_; intro w3 hb3))
    go_ret
    exact ⟨rfl, below_trans hw1 (below_trans hb2 hb3)⟩
  have hlx : xs.length ≤ 200 := by unfold fewB at hf; simp only [Bool.and_eq_true, decide_eq_true_eq] at hf; omega
  rw [hf] at hfw
  have HFW := Lib.hid hfw
  clear hf hfw hl
  have HCA : Hid (∀ (v : Value) (w : World), NetV w v x → Calls Try.prog 40 #[v, .int .i64 n] w (clmQ x n w)) := fun v w hV => Calm_any x n v w (by have := HL.out; omega) (by have := HL.out; omega) (by have := HL.out; omega) hV
  go_enter Try.func10, Try.ntmps10
  go_wp2_with fail
  refine calls_below (HS.out _ _ (HV.out _ (below_alloc (Below.refl _ _) _))) ?_
  intro w1 hb1
  have hg1 := bl_below (bl_new w (.cells #[.int .i64 x.nodes, .int .i64 x.now, .int .i64 x.next, .slice AW1 x.way.length cW1, .slice AC1 x.cuts.length cC1, .slice AT1 x.timers.length cT1] 26)) hb1
  have hw1 := below_trans (below_alloc (Below.refl w.heap.size w) _) hb1
  go_wp2_with fail
  refine calls_below (HFW.out _ (HR.out.below hw1)) ?_
  intro w2 hb2
  have hg2 := bl_below hg1 hb2
  have hw2 := below_trans hw1 hb2
  obtain ⟨⟨k0, k1, k2, k3, k4, k5⟩, -⟩ := blc6 hg2
  have hlg := bl_lt hg2
  go_wp2_with fail
  refine (HCA.out _ _ (HV.out _ hw2)).mono ?_
  rintro e w3 ⟨v3, u3, t3, rfl, hN3, hL3, hT3, hb3⟩
  obtain ⟨y, hy⟩ : ∃ y, y = calmRX x n := ⟨_, rfl⟩
  obtain ⟨L, hLL⟩ : ∃ L, L = calmRL x n := ⟨_, rfl⟩
  rw [← hy] at hN3
  rw [← hLL] at hL3
  obtain ⟨AW, cW, AC, cC, AT, cT, rfl, oW, oC, oT⟩ := hN3
  obtain ⟨AL, cL, rfl, -, hRL⟩ := hL3.slice
  obtain ⟨E, hE⟩ : ∃ E, E = calmE x n := ⟨_, rfl⟩
  rw [← hE]
  have hg3 := bl_below hg2 hb3
  have hw3 := below_trans hw2 hb3
  have HEE := Lib.hid hE
  have HYY := Lib.hid hy
  have HLLL := Lib.hid hLL
  clear k0 k1 k2 k3 k4 k5 hlg hE hy hLL
  go_upto_if 47 with fail
  obtain ⟨w4, hw4⟩ : ∃ w4, w4 = w3.alloc (.cells #[.int .i64 y.nodes, .int .i64 y.now, .int .i64 y.next, .slice AW y.way.length cW, .slice AC y.cuts.length cC, .slice AT y.timers.length cT] 26) := ⟨_, rfl⟩
  have hb4 : Below w3.heap.size w3 w4 := by rw [hw4]; exact below_alloc (Below.refl _ _) _
  have HG9 : Hid (w4.heap[w3.heap.size]? = some (.cells #[.int .i64 y.nodes, .int .i64 y.now, .int .i64 y.next, .slice AW y.way.length cW, .slice AC y.cuts.length cC, .slice AT y.timers.length cT] 26 (0, 0))) := by rw [hw4]; exact bl_new _ _
  have HG4 := Lib.hid (bl_below hg3 hb4)
  have HB4 := Lib.hid (below_trans hw3 hb4)
  have HRW4 := Lib.hid (HWW.out.below HB4.out)
  have HRL4 := Lib.hid (hRL.below hb4)
  have hlen := HL.out.1
  rw [← hw4]
  clear hw4 hb4 hg1 hg2 hg3 hw1 hw2 hw3 hb1 hb2 hb3 hL3 hRL hT3 oW oC oT HCA HFW HS HV
  refine wp_cut (fun a W => ∃ f, a = st 180 f ∧ f 2 = .int .i64 nodes ∧ f 3 = .slice A xs.length c ∧ Hid (Below w.heap.size w W)) ?rest ?first
  case first =>
    intro J K' hJ hK'
    cases hE0 : (E == 0)
    · go_wp2
      exact Met.intro (hJ _ _ ⟨_, st_of 180 (by rfl), rfl, rfl, HB4⟩)
    · have h0 : calmE x n = 0 := by rw [← HEE.out]; exact beq_iff_eq.1 hE0
      obtain ⟨N, rfl, hN, hx, hlim, l1, l2, l3, l4, l5, l6⟩ := calm_facts h0
      rw [← HYY.out] at l1 l3 l4
      rw [← HLLL.out] at l2 l5 l6
      have HCN := Lib.hid l5
      have L1 := Lib.hid l1
      have L2 := Lib.hid l2
      have L3 := Lib.hid l3
      have L4 := Lib.hid l4
      have hnow := hx.t0
      clear l1 l2 l3 l4 l5 hx h0 HEE HYY HLLL
      go_wp2
      obtain ⟨g4, hg4⟩ : ∃ g, g = w.heap.size := ⟨_, rfl⟩
      obtain ⟨g9, hg9⟩ : ∃ g, g = w3.heap.size := ⟨_, rfl⟩
      rw [← hg4] at HG4 ⊢
      rw [← hg9] at HG9 ⊢
      clear hg4 hg9
      refine wp_st 180 (by rfl) fun f0 hf0 => ?_
      refine wp_loop (coI x N (.int .i64 nodes) (.slice A xs.length c) (.pointer (some ⟨g4, 0, none⟩)) (.pointer (some ⟨g9, 0, none⟩)) (.slice AL L.length cL) w4) (coMu x.way.length) ⟨f0, rfl, 0, Nat.zero_le _, (hf0 1).trans rfl, (hf0 2).trans rfl, (hf0 3).trans rfl, (hf0 4).trans rfl, (hf0 9).trans rfl, (hf0 10).trans rfl, (hf0 13).trans rfl, (hf0 14).trans rfl, (hf0 15).trans rfl, Below.refl _ _⟩ ?_
      clear hf0 f0
      rintro a wr ⟨f, rfl, i, hi, h1, h2, h3, h4, h9, h10, h13, h14, h15, hB⟩
      by_cases hlk : i < x.way.length
      · exact calms_co x L g4 N _ _ _ w4 wr f _ i AW1 AC1 AT1 AL cW1 cC1 cT1 cL hlen l6 hlk hN hnow hlim HG4 HRW4 HRL4 HCN h1 h2 h3 h4 h9 h10 h13 h14 h15 hB
      obtain rfl : i = x.way.length := by omega
      rw [List.take_length] at h13 h14
      have hz4 := bl_below HG4.out hB.out
      have hz9 := bl_below HG9.out hB.out
      rw [L1.out, L3.out, L4.out] at hz9
      rw [L2.out] at h10
      obtain ⟨nl, hnl⟩ : ∃ c, c = (x.way.filter (stayB x N)).length := ⟨_, rfl⟩
      obtain ⟨ng, hng⟩ : ∃ c, c = (x.way.filter (fun l => !stayB x N l)).length := ⟨_, rfl⟩
      rw [← hnl] at h13 hz9
      rw [← hng] at h14 h10
      obtain ⟨⟨k0, k1, k2, k3, k4, k5⟩, -⟩ := blc6 hz4
      obtain ⟨⟨y0, y1, y2, y3, y4, y5⟩, -⟩ := blc6 hz9
      have hlz4 := bl_lt hz4
      have hlz9 := bl_lt hz9
      rw [List.length_nil] at y4
      have hwr : IntKind.i64.wrap (x.now + (N : Int)) = x.now + (N : Int) := IntWalk.i64_in _ (by omega)
      rw [stm_all, h1, h2, h3, h4, h9, h10, h13, h14, h15]
      clear h1 h2 h3 h4 h9 h10 h13 h14 h15 hnl hng hz4 hz9
      go_wp2
      exact Met.intro (hJ _ _ ⟨_, st_of 180 (by rfl), rfl, rfl, HB4.out.trans (hB.out.mono HB4.out.size)⟩)
  case rest =>
    rintro a' W ⟨f, rfl, h2, h3, HB⟩
    rw [stm_all, h2, h3]
    clear h2 h3 HG4 HG9 HRW4 HRL4 HB4
    by_cases hn : nodes < 1 ∨ 16 < nodes
    · have HP := Lib.hid fun (w : World) (v : Value) => Play_bad nodes v w hn
      clear hn
      go_wp2_with fail
      refine (HP.out _ _).mono ?_
      rintro e w5 ⟨rfl, hb5⟩
      simp only [zNetV]
      go_wp2_with fail
      refine calls_below (sane_any _) ?_
      intro w6 hb6
      go_wp2
      go_ret
      exact ⟨rfl, below_trans HB.out (below_trans hb5 (below_trans (below_alloc (Below.refl _ _) _) hb6))⟩
    have h0 : 1 ≤ nodes := by omega
    have h1 : nodes ≤ 16 := by omega
    have hok0 := newX_ok h0 h1
    have hbd0 : Bd 0 (newX nodes) := bd_new nodes
    have hok := play_keeps xs hok0
    have hbd := bd_play xs 0 hok0 hbd0
    rw [Nat.zero_add] at hbd
    obtain ⟨z, hz⟩ : ∃ z, z = playX (newX nodes) xs := ⟨_, rfl⟩
    have HP : Hid (∀ w, Rd w A xs → Calls Try.prog 22 #[.int .i64 nodes, .slice A xs.length c] w fun e w' => ∃ v u, e = .returned (.tuple #[v, u, .int .i64 0]) ∧ NetV w' v z ∧ Below w.heap.size w w') := fun w hR => by
      refine (Play_good nodes xs A c w h0 h1 hR (by omega)).mono fun e w' h => ?_
      obtain ⟨v, u, rs, rfl, hn, ho, hs, hb⟩ := h
      rw [← hz] at hn
      exact ⟨v, u, rfl, hn.netV, hb⟩
    rw [← hz] at hok hbd
    obtain ⟨m, hm⟩ : ∃ m : Nat, m = 1000 := ⟨_, rfl⟩
    have hgone := calm_gone hok hbd (by omega) hm
    have hznow := hbd.nw
    have hlimz : z.now + (m : Int) ≤ 1099511627776 := by omega
    obtain ⟨z1, hz1⟩ : ∃ q, q = calmX (noCut z) m := ⟨_, rfl⟩
    have hca := calm_at (nocut_ok hok) m hlimz
    have HC1 : Hid (∀ (v : Value) w, NetV w v z → Calls Try.prog 40 #[v, .int .i64 1000] w fun e w' => ∃ v u t, e = .returned (.tuple #[v, u, t, .int .i64 0]) ∧ NetO w' w.heap.size v z1 ∧ Below w.heap.size w w') := fun v w hV => by
      have h := Calm_good z m v w hV hok (by omega) hlimz
      have e1 : ((m : Nat) : Int) = 1000 := by omega
      rw [e1] at h
      refine h.mono fun e w' h => ?_
      obtain ⟨v, u, t, rfl, a1, a2, a3, a4⟩ := h
      rw [← hz1] at a1
      exact ⟨v, u, t, rfl, a1, a4⟩
    rw [← hz1] at hca hgone
    obtain ⟨z2, hz2⟩ : ∃ q, q = calmX (noCut z1) 1 := ⟨_, rfl⟩
    have hz1now : (noCut z).now = z.now := rfl
    have HC2 : Hid (∀ (v : Value) w, NetV w v z1 → Calls Try.prog 40 #[v, .int .i64 1] w fun e w' => ∃ v u t, e = .returned (.tuple #[v, u, t, .int .i64 0]) ∧ NetO w' w.heap.size v z2 ∧ Below w.heap.size w w') := fun v w hV => by
      have h := Calm_good z1 1 v w hV hca.1 (by omega) (by have := hca.2.1; omega)
      refine h.mono fun e w' h => ?_
      obtain ⟨v, u, t, rfl, a1, a2, a3, a4⟩ := h
      rw [← hz2] at a1
      exact ⟨v, u, t, rfl, a1, a4⟩
    rw [← hz2] at hgone
    have HG := Lib.hid hgone
    have HRB := Lib.hid (HR.out.below HB.out)
    clear hn h0 h1 hok0 hbd0 hok hbd hz hm hgone hlimz hz1 hca hz2 hz1now hznow
    go_wp2_with fail
    refine (HP.out _ HRB.out).mono ?_
    rintro e w5 ⟨v5, u5, rfl, hN5, hb5⟩
    obtain ⟨AW5, cW5, AC5, cC5, AT5, cT5, rfl, rW5, rC5, rT5⟩ := hN5
    have hN5 : ∀ W, Below w5.heap.size w5 W → NetV W (.agg #[.int .i64 z.nodes, .int .i64 z.now, .int .i64 z.next, .slice AW5 z.way.length cW5, .slice AC5 z.cuts.length cC5, .slice AT5 z.timers.length cT5]) z := fun W hb => ⟨AW5, cW5, AC5, cC5, AT5, cT5, rfl, rW5.below hb, rC5.below hb, rT5.below hb⟩
    have HN5 := Lib.hid hN5
    clear hN5 rW5 rC5 rT5
    go_wp2_with fail
    refine (HC1.out _ _ (HN5.out _ (below_alloc (Below.refl _ _) _))).mono ?_
    rintro e w6 ⟨v6, u6, t6, rfl, hN6, hb6⟩
    obtain ⟨AW6, cW6, AC6, cC6, AT6, cT6, rfl, rW6, rC6, rT6⟩ := hN6
    have hg20 := bl_below (bl_new w5 (.cells #[.int .i64 z.nodes, .int .i64 z.now, .int .i64 z.next, .slice AW5 z.way.length cW5, .slice AC5 z.cuts.length cC5, .slice AT5 z.timers.length cT5] 26)) hb6
    obtain ⟨⟨k0, k1, k2, k3, k4, k5⟩, f0, f1, f2, f3, f4, f5⟩ := blc6 hg20
    have hlg := bl_lt hg20
    have HB6 := Lib.hid (below_trans HB.out (below_trans hb5 (below_trans (below_alloc (Below.refl _ _) (.cells #[.int .i64 z.nodes, .int .i64 z.now, .int .i64 z.next, .slice AW5 z.way.length cW5, .slice AC5 z.cuts.length cC5, .slice AT5 z.timers.length cT5] 26)) hb6)))
    have HG20 := Lib.hid hg20
    have hle : w.heap.size ≤ w5.heap.size := (below_trans HB.out hb5).size
    have hp6 : w5.heap.size < (w5.alloc (.cells #[.int .i64 z.nodes, .int .i64 z.now, .int .i64 z.next, .slice AW5 z.way.length cW5, .slice AC5 z.cuts.length cC5, .slice AT5 z.timers.length cT5] 26)).heap.size := by simp
    have HN6 : Hid (NetO w6 (w5.alloc (.cells #[.int .i64 z.nodes, .int .i64 z.now, .int .i64 z.next, .slice AW5 z.way.length cW5, .slice AC5 z.cuts.length cC5, .slice AT5 z.timers.length cT5] 26)).heap.size (.agg #[.int .i64 z1.nodes, .int .i64 z1.now, .int .i64 z1.next, .slice AW6 z1.way.length cW6, .slice AC6 z1.cuts.length cC6, .slice AT6 z1.timers.length cT6]) z1) := ⟨AW6, cW6, AC6, cC6, AT6, cT6, rfl, rW6, rC6, rT6⟩
    clear hb5 hb6 hg20 rW6 rC6 rT6 HP HC1 HN5
    go_upto_region 33 with fail
    obtain ⟨w7, hw7⟩ : ∃ w7, w7 = (((((w6.setCell ⟨w5.heap.size, 0, none⟩ (.int .i64 z1.nodes)).setCell ⟨w5.heap.size, 1, none⟩ (.int .i64 z1.now)).setCell ⟨w5.heap.size, 2, none⟩ (.int .i64 z1.next)).setCell ⟨w5.heap.size, 3, none⟩ (.slice AW6 z1.way.length cW6)).setCell ⟨w5.heap.size, 4, none⟩ (.slice AC6 z1.cuts.length cC6)).setCell ⟨w5.heap.size, 5, none⟩ (.slice AT6 z1.timers.length cT6) := ⟨_, rfl⟩
    have HG7 : Hid (w7.heap[w5.heap.size]? = some (.cells #[.int .i64 z1.nodes, .int .i64 z1.now, .int .i64 z1.next, .slice AW6 z1.way.length cW6, .slice AC6 z1.cuts.length cC6, .slice AT6 z1.timers.length cT6] 26 (0, 0))) := by rw [hw7]; exact bl_all6 HG20.out _ _ _ _ _ _
    have HN7 : Hid (NetV w7 (.agg #[.int .i64 z1.nodes, .int .i64 z1.now, .int .i64 z1.next, .slice AW6 z1.way.length cW6, .slice AC6 z1.cuts.length cC6, .slice AT6 z1.timers.length cT6]) z1) := by rw [hw7]; exact (HN6.out.far6 hp6 _ _ _ _ _ _).netV
    have HB7 : Hid (Below w.heap.size w w7) := by rw [hw7]; exact below_set6 HB6.out hle _ _ _ _ _ _
    rw [← hw7]
    clear hw7 HG20 HN6 HB6 k0 k1 k2 k3 k4 k5 f0 f1 f2 f3 f4 f5 hlg hp6
    obtain ⟨⟨k0, k1, k2, k3, k4, k5⟩, f0, f1, f2, f3, f4, f5⟩ := blc6 HG7.out
    have hlg := bl_lt HG7.out
    go_wp2_with fail
    refine (HC2.out _ _ HN7.out).mono ?_
    rintro e w8 ⟨v8, u8, t8, rfl, hN8, hb8⟩
    obtain ⟨AW8, cW8, AC8, cC8, AT8, cT8, rfl, rW8, rC8, rT8⟩ := hN8
    rw [HG.out, List.length_nil]
    have hg8 := bl_below HG7.out hb8
    have HB8 := Lib.hid (below_trans HB7.out hb8)
    clear k0 k1 k2 k3 k4 k5 f0 f1 f2 f3 f4 f5 hlg rW8 rC8 rT8 hb8
    obtain ⟨⟨k0, k1, k2, k3, k4, k5⟩, f0, f1, f2, f3, f4, f5⟩ := blc6 hg8
    have hlg := bl_lt hg8
    have HG8 := Lib.hid hg8
    clear hg8
    go_upto_region 34 with fail
    obtain ⟨w9, hw9⟩ : ∃ w9, w9 = (((((w8.setCell ⟨w5.heap.size, 0, none⟩ (.int .i64 z2.nodes)).setCell ⟨w5.heap.size, 1, none⟩ (.int .i64 z2.now)).setCell ⟨w5.heap.size, 2, none⟩ (.int .i64 z2.next)).setCell ⟨w5.heap.size, 3, none⟩ (.slice AW8 0 cW8)).setCell ⟨w5.heap.size, 4, none⟩ (.slice AC8 z2.cuts.length cC8)).setCell ⟨w5.heap.size, 5, none⟩ (.slice AT8 z2.timers.length cT8) := ⟨_, rfl⟩
    have HG9 : Hid (w9.heap[w5.heap.size]? = some (.cells #[.int .i64 z2.nodes, .int .i64 z2.now, .int .i64 z2.next, .slice AW8 0 cW8, .slice AC8 z2.cuts.length cC8, .slice AT8 z2.timers.length cT8] 26 (0, 0))) := by rw [hw9]; exact bl_all6 HG8.out _ _ _ _ _ _
    have HB9 : Hid (Below w.heap.size w w9) := by rw [hw9]; exact below_set6 HB8.out hle _ _ _ _ _ _
    rw [← hw9]
    clear hw9 k0 k1 k2 k3 k4 k5 f0 f1 f2 f3 f4 f5 hlg
    go_wp2_with fail
    refine calls_below (sane_any _) ?_
    intro w10 hb10
    obtain ⟨⟨k0, k1, k2, k3, k4, k5⟩, -⟩ := blc6 (bl_below HG9.out hb10)
    have hlg := bl_lt (bl_below HG9.out hb10)
    go_wp2
    go_ret
    exact ⟨rfl, below_trans HB9.out hb10⟩
end Go.Proofs.Ythlbmcfliejdiaa
end

section
set_option linter.unusedVariables false
namespace Go.Proofs.Ythlbmcfliejdiaa.netCalms
open Go.ChangeShapes Go.WideShapes Go.ChangeAt Go.RowKit
theorem own : ownKnob Try.prog.godebug = none := by kernel_rfl
theorem laidOut : laidOutB Try.prog = true := by kernel_rfl
set_option maxRecDepth 100000 in
theorem lifted (os : Os) (started : os.Started) (H : Type) (enc : TypeId × Value → H) :
    ReturnsInHanded {} Try.checked os 10 .any (Rows.netCalmsSpec.pre6 enc Try.prog Try.f10 Rows.netCalmsRow.domain false) (Rows.netCalmsSpec.post enc Try.prog Try.f10 false true false false) := by
  refine returnsInHanded_of_change_sized (C := Try.checked) own started (by kernel_rfl) Try.func10
    (ChangeSpec.witness6 (enc := enc) (C := Try.checked) false ⟨#[], #[.agg #[.int .i64 0, .int .i64 0, .int .i64 0, .slice none 0 0, .slice none 0 0, .slice none 0 0], .int .i64 0, .int .i64 0, .slice none 0 0], []⟩ 8 (by kernel_rfl) (by kernel_rfl) (by kernel_rfl) (by kernel_rfl)) ?_
  intro W base args ds gs before hval0 hW hcnd hsz0 _
  have hval : ∀ (j : Nat) t v, Try.f10.params[j]? = some t → args[j]? = some v → Value.okWide Try.prog W .any base t v := hval0
  have hW' := hW
  obtain ⟨p, q, hA0, hV, rfl, hfz, hnd⟩ := hW
  have hA : DataW.TrodAll enc Try.prog W 0 (fun _ => true) true Try.f10.params.toList args.toList ds p := hA0
  rw [Try.params10] at hA hval
  obtain ⟨v0, vs0, d0, ds0, p0, q0, hargs, rfl, rfl, h0, r0⟩ := trodAll_cons hA
  obtain ⟨v1, vs1, d1, ds1, p1, q1, rfl, rfl, rfl, h1, r1⟩ := trodAll_cons r0
  obtain ⟨v2, vs2, d2, ds2, p2, q2, rfl, rfl, rfl, h2, r2⟩ := trodAll_cons r1
  obtain ⟨v3, vs3, d3, ds3, p3, q3, rfl, rfl, rfl, h3, r3⟩ := trodAll_cons r2
  obtain ⟨rfl, rfl, rfl⟩ := trodAll_nil r3
  obtain rfl : args = #[v0, v1, v2, v3] := by cases args; simp_all
  obtain ⟨rfl, rfl⟩ := trodVars_none hV
  have k0 := h0
  have lt0 : ∀ x ∈ p0, x.block < W.heap.size := by obtain ⟨m, hm⟩ := k0; exact DataW.trod_lt m _ _ _ hm
  obtain ⟨x0, hx0, hw0, hc0, ht0⟩ := NetV_open (hval 0 26 v0 rfl rfl) h0
  obtain ⟨a1, rfl, rfl, rfl, w1⟩ := open_int Try.underlying3 (hval 1 3 v1 rfl rfl) h1
  obtain ⟨a2, rfl, rfl, rfl, w2⟩ := open_int Try.underlying3 (hval 2 3 v2 rfl rfl) h2
  have k3 := h3
  have lt3 : ∀ x ∈ p3, x.block < W.heap.size := by obtain ⟨m, hm⟩ := k3; exact DataW.trod_lt m _ _ _ hm
  obtain ⟨A3, xs3, c3, rfl, hR3, hl3⟩ := Acts_open (hval 3 46 v3 rfl rfl) h3
  clear hA0 hval0 hsz0
  refine (NetCalms_any x0 a1 a2 xs3 A3 c3 v0 W hx0 hw0 hc0 ht0 hR3 hl3).mono fun e W' ⟨he, bel⟩ => ?_
  subst he
  exact ⟨_, rfl, _, _, _, [], _, [], hW', trodAll_mk1 (shut_bool Try.underlying4 _), (trodAll_cons_mk (Below.trod laidOut (by kernel_rfl) (of_decide_eq_true (by kernel_rfl)) k0 bel lt0) (trodAll_cons_mk (shut_int Try.underlying3 w1) (trodAll_cons_mk (shut_int Try.underlying3 w2) (trodAll_cons_mk (Below.trod laidOut (by kernel_rfl) (of_decide_eq_true (by kernel_rfl)) k3 bel lt3) trodAll_mk0)))), rfl, bel.frame _, fun h => by cases h⟩
theorem over : Rows.netCalmsRow.holds Try.pinned (OpenSpec.ofChange Rows.netCalmsSpec) :=
  OpenClaim.holds_of_wide 10 Try.f10 rfl rfl rfl rfl rfl rfl rfl ⟨rfl, rfl, rfl, rfl, rfl⟩ rfl rfl rfl rfl rfl (by kernel_rfl) Try.func10 (by kernel_rfl)
    (of_decide_eq_true (by kernel_rfl)) (by unfold Func.isWrapper; first | (rw [if_pos (by decide +kernel)]; kernel_rfl) | (rw [if_neg (by decide +kernel)]; exact ⟨rfl, rfl⟩))
    (fun os started H enc _ => lifted os started H enc)
theorem proved : Rows.NetCalmsSaid := over
end Go.Proofs.Ythlbmcfliejdiaa.netCalms
namespace Go.Proofs.Ythlbmcfliejdiaa
theorem netCalms_holds : Rows.NetCalmsSaid := netCalms.proved
end Go.Proofs.Ythlbmcfliejdiaa
end
