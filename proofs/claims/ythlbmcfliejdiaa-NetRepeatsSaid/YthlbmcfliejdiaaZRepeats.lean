/- Plain laws of NetConserves: what the law counts agrees with the network, act by act. Plain laws of NetRepeats: what a log of acts is, and what Audit says of it. A log in memory, element by element. The program's same; the reference's SameSeen and SameLog. (Printed by wip/gen_refs.py.). The contract of Audit. NetRepeats: the round of its loop. (Printed by wip/gen_lawr.py.). NetRepeats: the region that appends. (Printed by wip/gen_lawrb.py.). The law NetRepeats: it returns true. (Printed by wip/gen_lawrc.py.). The arguments of the laws, opened: lists with their capacity, what is seen. (Printed by wip/gen_open3.py.). The given row of NetRepeats. (Printed by wip/gen_row.py.). -/
import Derived.Test.YthlbmcfliejdiaaGf
import Derived.Test.YthlbmcfliejdiaaGh
import Derived.Test.YthlbmcfliejdiaaGj
import Derived.Deep.CutBlock
import Derived.Deep.RegionHeld3
import Derived.Deep.DeepCutAuto
import Derived.Deep.CutRange
import Derived.Deep.AppendLies
import Derived.Test.YthlbmcfliejdiaaRows
import Derived.WalkKit
import Derived.ProofKit
import Derived.OpenShut
import Derived.ShutString
import Derived.ChangeOld
import Derived.Below
import Derived.SizedLaws
import Derived.Carry
section
set_option linter.unusedVariables false
set_option linter.unusedSimpArgs false
namespace Go.Proofs.Ythlbmcfliejdiaa
open Go.RowKit

/-- What became of the letters of a number: how often they came, how often they went. -/
structure Acct where
  i : Int
  o : Int
  deriving DecidableEq
def incA (q : Acct) : Acct := ⟨q.i + 1, q.o⟩
def outA (q : Acct) : Acct := ⟨q.i, q.o + 1⟩
structure Cons where
  sent : List Lt
  all : List Acct
/-- What the law keeps, behind one more act. -/
def consS (c : Cons) (s : Sn) : Cons :=
  if s.e ≠ 0 ∨ s.a.k < 1 ∨ 5 < s.a.k then c
  else if s.a.k = 1 then ⟨c.sent ++ [s.l], c.all ++ [⟨1, 0⟩]⟩
  else if s.a.k = 4 then ⟨c.sent, c.all.modify s.l.id.toNat incA⟩
  else if s.a.k = 2 ∨ s.a.k = 3 then ⟨c.sent, c.all.modify s.l.id.toNat outA⟩
  else c
def cnt (way : List Lt) (j : Nat) : Int := (((way.filter (fun l => decide (l.id = (j : Int)))).length : Nat) : Int)
structure ConsI (k : Nat) (x : Nt) (c : Cons) : Prop where
  ls : (c.sent.length : Int) = x.next
  la : c.all.length = c.sent.length
  wy : ∀ l ∈ x.way, ∃ m, c.sent[l.id.toNat]? = some m ∧ l.fr = m.fr ∧ l.to = m.to ∧ l.data = m.data
  ac : ∀ (j : Nat) q, c.all[j]? = some q → q.i - q.o = cnt x.way j
  bd : ∀ (j : Nat) q, c.all[j]? = some q → 0 ≤ q.o ∧ q.i ≤ k
  ln : c.sent.length ≤ k
theorem cnt_nonneg (way : List Lt) (j : Nat) : 0 ≤ cnt way j := by unfold cnt; omega
theorem cnt_append (xs ys : List Lt) (j : Nat) : cnt (xs ++ ys) j = cnt xs j + cnt ys j := by
  unfold cnt; rw [List.filter_append, List.length_append]; omega
theorem cnt_one (l : Lt) (j : Nat) : cnt [l] j = if l.id = j then 1 else 0 := by
  unfold cnt
  by_cases h : l.id = j <;> simp [h]
theorem cnt_erase : ∀ (way : List Lt) (i : Nat) (l : Lt) (j : Nat), way[i]? = some l → cnt (way.eraseIdx i) j = cnt way j - if l.id = j then 1 else 0
  | [], i, l, j, h => by simp at h
  | y :: r, 0, l, j, h => by
    have : y = l := by simpa using h
    subst this
    have h2 := cnt_append [y] r j
    rw [cnt_one] at h2
    simp only [List.singleton_append] at h2
    rw [List.eraseIdx_cons_zero]
    omega
  | y :: r, i + 1, l, j, h => by
    have ih := cnt_erase r i l j (by simpa using h)
    have h2 := cnt_append [y] r j
    have h3 := cnt_append [y] (r.eraseIdx i) j
    simp only [List.singleton_append] at h2 h3
    rw [List.eraseIdx_cons_succ, h3, ih, h2]
    omega
theorem cnt_set : ∀ (way : List Lt) (i : Nat) (l l' : Lt) (j : Nat), way[i]? = some l → l'.id = l.id → cnt (way.set i l') j = cnt way j
  | [], i, l, l', j, h, _ => by simp at h
  | y :: r, 0, l, l', j, h, he => by
    have : y = l := by simpa using h
    subst this
    have h2 := cnt_append [y] r j
    have h3 := cnt_append [l'] r j
    rw [cnt_one] at h2 h3
    simp only [List.singleton_append] at h2 h3
    rw [List.set_cons_zero, h3, h2, he]
  | y :: r, i + 1, l, l', j, h, he => by
    have ih := cnt_set r i l l' j (by simpa using h) he
    have h2 := cnt_append [y] r j
    have h3 := cnt_append [y] (r.set i l') j
    simp only [List.singleton_append] at h2 h3
    rw [List.set_cons_succ, h3, ih, h2]
theorem cnt_zero {way : List Lt} {j : Nat} (h : ∀ l ∈ way, l.id ≠ j) : cnt way j = 0 := by
  unfold cnt
  rw [List.filter_eq_nil_iff.2 (fun l hl => by simpa using h l hl)]
  rfl
theorem get_modify {α : Type} (xs : List α) (f : α → α) (i j : Nat) : (xs.modify i f)[j]? = if i = j then (xs[j]?).map f else xs[j]? := by
  rw [List.getElem?_modify]
  by_cases h : i = j
  · subst h; cases xs[i]? <;> simp
  · simp [h]
theorem letter_id {x : Nt} (h : Ok x) {l : Lt} (hl : l ∈ x.way) : 0 ≤ l.id ∧ l.id < x.next := by
  have := h.lts l hl
  simp only [isLetterB, Bool.and_eq_true, decide_eq_true_eq] at this
  exact ⟨this.1.1.1.1.2, this.1.1.1.2⟩
theorem cons_mono {k : Nat} {x x' : Nt} {c : Cons} (h : ConsI k x c) (hn : x'.next = x.next) (hw : x'.way = x.way) : ConsI (k + 1) x' c := by
  refine ⟨by rw [hn]; exact h.ls, h.la, by rw [hw]; exact h.wy, by rw [hw]; exact h.ac, fun j q hq => ?_, Nat.le_succ_of_le h.ln⟩
  have := h.bd j q hq
  omega
/-- What an act on a letter leaves and shows. -/
theorem act_letter {x : Nt} (a : Ac) (h2 : 2 ≤ a.k) (h5 : a.k ≤ 5) (he : (actM x a).e = 0) :
    ∃ (i : Nat) (l : Lt), x.way[i]? = some l ∧ (actM x a).x.next = x.next ∧ (actM x a).x.now = x.now ∧ (actM x a).l.id = l.id ∧ (actM x a).l.fr = l.fr ∧ (actM x a).l.to = l.to ∧ (actM x a).l.data = l.data ∧
      ((a.k = 2 ∧ l.rd ≤ x.now ∧ (actM x a).l.rd = l.rd ∧ (actM x a).x.way = x.way.eraseIdx i) ∨ (a.k = 3 ∧ (actM x a).x.way = x.way.eraseIdx i) ∨ (a.k = 4 ∧ (actM x a).x.way = x.way ++ [l]) ∨ (a.k = 5 ∧ ∃ l', l'.id = l.id ∧ l'.fr = l.fr ∧ l'.to = l.to ∧ l'.data = l.data ∧ (actM x a).x.way = x.way.set i l')) := by
  obtain hk | hk | hk | hk : a.k = 2 ∨ a.k = 3 ∨ a.k = 4 ∨ a.k = 5 := by omega
  · have e : actM x a = deliverM x a.n := by unfold actM; simp [hk]
    rw [e] at he ⊢
    unfold deliverM at he ⊢
    split at he
    · simp [errR] at he
    rename_i h1
    rw [if_neg h1]
    split at he
    · simp [errR] at he
    rename_i l hl
    split at he
    · simp [errR] at he
    rename_i h2
    simp only [hl, if_neg h2]
    have hc : canB x l = true := by simpa using h2
    unfold canB at hc
    simp only [Bool.and_eq_true, decide_eq_true_eq] at hc
    exact ⟨_, l, hl, (by first | rfl | trivial), (by first | rfl | trivial), (by first | rfl | trivial), (by first | rfl | trivial), (by first | rfl | trivial), (by first | rfl | trivial), .inl ⟨hk, hc.1, (by first | rfl | trivial), (by first | rfl | trivial)⟩⟩
  · have e : actM x a = loseM x a.n := by unfold actM; simp [hk]
    rw [e] at he ⊢
    unfold loseM at he ⊢
    split at he
    · simp [errR] at he
    rename_i h1
    rw [if_neg h1]
    split at he
    · simp [errR] at he
    rename_i l hl
    simp only [hl]
    exact ⟨_, l, hl, (by first | rfl | trivial), (by first | rfl | trivial), (by first | rfl | trivial), (by first | rfl | trivial), (by first | rfl | trivial), (by first | rfl | trivial), .inr (.inl ⟨hk, (by first | rfl | trivial)⟩)⟩
  · have e : actM x a = doubleM x a.n := by unfold actM; simp [hk]
    rw [e] at he ⊢
    unfold doubleM at he ⊢
    split at he
    · simp [errR] at he
    rename_i h1
    split at he
    · simp [errR] at he
    rename_i h2
    rw [if_neg h1, if_neg h2]
    split at he
    · simp [errR] at he
    rename_i l hl
    simp only [hl]
    exact ⟨_, l, hl, (by first | rfl | trivial), (by first | rfl | trivial), (by first | rfl | trivial), (by first | rfl | trivial), (by first | rfl | trivial), (by first | rfl | trivial), .inr (.inr (.inl ⟨hk, (by first | rfl | trivial)⟩))⟩
  · have e : actM x a = delayM x a.n a.b := by unfold actM; simp [hk]
    rw [e] at he ⊢
    unfold delayM at he ⊢
    split at he
    · simp [errR] at he
    rename_i h1
    split at he
    · simp [errR] at he
    rename_i h2
    rw [if_neg h1, if_neg h2]
    split at he
    · simp [errR] at he
    rename_i l hl
    simp only [hl]
    exact ⟨_, l, hl, (by first | rfl | trivial), (by first | rfl | trivial), (by first | rfl | trivial), (by first | rfl | trivial), (by first | rfl | trivial), (by first | rfl | trivial), .inr (.inr (.inr ⟨hk, { l with rd := x.now + a.b }, (by first | rfl | trivial), (by first | rfl | trivial), (by first | rfl | trivial), (by first | rfl | trivial), (by first | rfl | trivial)⟩))⟩
theorem act_send {x : Nt} (a : Ac) (hk : a.k = 1) (he : (actM x a).e = 0) : (actM x a).x.next = x.next + 1 ∧ (actM x a).x.now = x.now ∧ (actM x a).l = ⟨x.next, a.a, a.b, x.now, a.data⟩ ∧ (actM x a).x.way = x.way ++ [⟨x.next, a.a, a.b, x.now, a.data⟩] := by
  have e : actM x a = sendM x a.a a.b a.data := by unfold actM; simp [hk]
  rw [e] at he ⊢
  unfold sendM at he ⊢
  split at he
  · simp [errR] at he
  rename_i h1
  split at he
  · simp [errR] at he
  rename_i h2
  split at he
  · simp [errR] at he
  rename_i h3
  rw [if_neg h1, if_neg h2, if_neg h3]
  exact ⟨rfl, rfl, rfl, rfl⟩
/-- Other acts leave the letters. -/
theorem act_else {x : Nt} (a : Ac) (hk : a.k < 1 ∨ 5 < a.k) (he : (actM x a).e = 0) : (actM x a).x.next = x.next ∧ (actM x a).x.way = x.way := by
  unfold actM at he ⊢
  rw [if_neg (by omega), if_neg (by omega), if_neg (by omega), if_neg (by omega), if_neg (by omega)] at he ⊢
  split at he
  · rw [if_pos ‹_›]
    unfold cutM at he ⊢
    split at he
    · simp [errR] at he
    rename_i h1
    split at he
    · simp [errR] at he
    rename_i h2
    rw [if_neg h1, if_neg h2]; exact ⟨rfl, rfl⟩
  rename_i n6; rw [if_neg n6]
  split at he
  · rw [if_pos ‹_›]
    unfold healM at he ⊢
    split at he
    · simp [errR] at he
    rename_i h1
    split at he
    · rename_i h2
      rw [if_neg h1, if_pos h2]; exact ⟨rfl, rfl⟩
    · simp [errR] at he
  rename_i n7; rw [if_neg n7]
  split at he
  · rw [if_pos ‹_›]
    unfold setM at he ⊢
    split at he
    · simp [errR] at he
    rename_i h1
    split at he
    · simp [errR] at he
    rename_i h2
    rw [if_neg h1, if_neg h2]; exact ⟨rfl, rfl⟩
  rename_i n8; rw [if_neg n8]
  split at he
  · rw [if_pos ‹_›]
    unfold stopM at he ⊢
    split at he
    · simp [errR] at he
    rename_i h1
    split at he
    · simp [errR] at he
    rename_i h2
    rw [if_neg h1, if_neg h2]; exact ⟨rfl, rfl⟩
  rename_i n9; rw [if_neg n9]
  split at he
  · rw [if_pos ‹_›]
    unfold tickM at he ⊢
    split at he
    · simp [errR] at he
    rename_i h1
    rw [if_neg h1]; exact ⟨rfl, rfl⟩
  · simp [errR] at he
theorem doS_act (x : Nt) (a : Ac) : (doS x a).a = a := by unfold doS; split <;> rfl
theorem doS_e (x : Nt) (a : Ac) : (doS x a).e = (actM x a).e := by
  unfold doS
  split
  · rename_i h; exact h.symm
  · rfl
theorem doS_ok {x : Nt} {a : Ac} (h : (actM x a).e = 0) : doS x a = ⟨a, 0, (actM x a).x.now, (actM x a).l, (actM x a).ts⟩ := by unfold doS; rw [if_pos h]
theorem doX_ok {x : Nt} {a : Ac} (h : (actM x a).e = 0) : doX x a = (actM x a).x := by unfold doX; rw [if_pos h]
theorem doX_no {x : Nt} {a : Ac} (h : ¬ (actM x a).e = 0) : doX x a = x := by unfold doX; rw [if_neg h]
/-- What the law asks of one act. -/
def consOk (c : Cons) (a : Ac) (s : Sn) : Prop :=
  s.e = 0 → 1 ≤ a.k → a.k ≤ 5 →
    (a.k = 1 ∧ s.l.id = c.sent.length ∧ s.l.fr = a.a ∧ s.l.to = a.b ∧ s.l.data = a.data ∧ s.l.rd = s.now) ∨
    (2 ≤ a.k ∧ 0 ≤ s.l.id ∧ s.l.id < c.sent.length ∧ (∃ m, c.sent[s.l.id.toNat]? = some m ∧ s.l.fr = m.fr ∧ s.l.to = m.to ∧ s.l.data = m.data) ∧ (a.k = 2 → s.l.rd ≤ s.now) ∧ (∃ q, c.all[s.l.id.toNat]? = some q ∧ 0 ≤ q.o ∧ (a.k = 4 → q.o ≤ q.i + 1) ∧ (a.k = 5 → q.o ≤ q.i) ∧ (a.k = 2 ∨ a.k = 3 → q.o + 1 ≤ q.i)))
theorem cons_step {k : Nat} {x : Nt} {c : Cons} (h : Ok x) (hi : ConsI k x c) (a : Ac) : consOk c a (doS x a) ∧ ConsI (k + 1) (doX x a) (consS c (doS x a)) := by
  by_cases he : (actM x a).e = 0
  case neg =>
    refine ⟨fun h0 => absurd ((doS_e x a).symm.trans h0) he, ?_⟩
    rw [doX_no he]
    have : consS c (doS x a) = c := by unfold consS; rw [doS_e, if_pos (.inl he)]
    rw [this]
    exact cons_mono hi rfl rfl
  rw [doS_ok he, doX_ok he]
  by_cases hk : a.k < 1 ∨ 5 < a.k
  · obtain ⟨e1, e2⟩ := act_else a hk he
    refine ⟨fun _ h1 h5 => by omega, ?_⟩
    have : consS c ⟨a, 0, (actM x a).x.now, (actM x a).l, (actM x a).ts⟩ = c := by unfold consS; rw [if_pos (.inr hk)]
    rw [this]
    exact cons_mono hi e1 e2
  by_cases h1 : a.k = 1
  · obtain ⟨e1, e2, e3, e4⟩ := act_send a h1 he
    rw [e3]
    have hs0 := h.s0
    refine ⟨fun _ _ _ => .inl ⟨h1, hi.ls.symm, rfl, rfl, rfl, e2.symm⟩, ?_⟩
    have hc : consS c ⟨a, 0, (actM x a).x.now, ⟨x.next, a.a, a.b, x.now, a.data⟩, (actM x a).ts⟩ = ⟨c.sent ++ [⟨x.next, a.a, a.b, x.now, a.data⟩], c.all ++ [⟨1, 0⟩]⟩ := by
      unfold consS; rw [if_neg (by simp; omega), if_pos h1]
    rw [hc]
    have hl := hi.ls
    have hla := hi.la
    refine ⟨by simp [e1]; omega, by simp [hla], ?_, ?_, ?_, by have := hi.ln; simp; omega⟩
    · intro l hm
      rw [e4] at hm
      rcases List.mem_append.1 hm with hm | hm
      · obtain ⟨m, hm1, hm2⟩ := hi.wy l hm
        exact ⟨m, by rw [List.getElem?_append_left (List.getElem?_eq_some_iff.1 hm1).1]; exact hm1, hm2⟩
      · obtain rfl := List.mem_singleton.1 hm
        refine ⟨_, ?_, rfl, rfl, rfl⟩
        show (c.sent ++ _)[x.next.toNat]? = _
        rw [List.getElem?_append_right (by omega)]
        have : x.next.toNat - c.sent.length = 0 := by omega
        rw [this]; rfl
    · intro j q hq
      rw [e4, cnt_append, cnt_one]
      rcases Nat.lt_or_ge j c.all.length with hj | hj
      · rw [List.getElem?_append_left hj] at hq
        rw [hi.ac j q hq, if_neg (by show ¬ x.next = j; omega)]
        omega
      · rw [List.getElem?_append_right hj] at hq
        have hj0 : j - c.all.length = 0 := by
          have := (List.getElem?_eq_some_iff.1 hq).1
          simpa using this
        rw [hj0] at hq
        have hq' : q = ⟨1, 0⟩ := by simpa using hq.symm
        rw [hq', cnt_zero (fun l hl => by have := letter_id h hl; omega), if_pos (by show x.next = j; omega)]
        rfl
    · intro j q hq
      rcases Nat.lt_or_ge j c.all.length with hj | hj
      · rw [List.getElem?_append_left hj] at hq
        have := hi.bd j q hq
        omega
      · rw [List.getElem?_append_right hj] at hq
        have hj0 : j - c.all.length = 0 := by
          have := (List.getElem?_eq_some_iff.1 hq).1
          simpa using this
        rw [hj0] at hq
        have hq' : q = ⟨1, 0⟩ := by simpa using hq.symm
        rw [hq']
        exact ⟨by decide, by show (1 : Int) ≤ ((k + 1 : Nat) : Int); omega⟩
  · obtain ⟨i, l, hl, e1, e2, e3, e4, e5, e6, hcase⟩ := act_letter a (by omega) (by omega) he
    have hlm := mem_at hl
    have hid := letter_id h hlm
    obtain ⟨m, hm1, hm2, hm3, hm4⟩ := hi.wy l hlm
    have hls := hi.ls
    have hla := hi.la
    have hjl : l.id.toNat < c.all.length := by omega
    have hq : c.all[l.id.toNat]? = some c.all[l.id.toNat] := List.getElem?_eq_getElem hjl
    have hac := hi.ac _ _ hq
    have hbd := hi.bd _ _ hq
    have hpos : 1 ≤ cnt x.way l.id.toNat := by
      have h1 := cnt_erase x.way i l l.id.toNat hl
      have h2 := cnt_nonneg (x.way.eraseIdx i) l.id.toNat
      rw [if_pos (by omega)] at h1
      omega
    constructor
    · intro _ _ _
      refine .inr ⟨by omega, ?_, ?_, ⟨m, ?_, ?_, ?_, ?_⟩, ?_, _, ?_, hbd.1, fun _ => by omega, fun _ => by omega, fun _ => by omega⟩
      · show 0 ≤ (actM x a).l.id; rw [e3]; exact hid.1
      · show (actM x a).l.id < _; rw [e3]; omega
      · show c.sent[(actM x a).l.id.toNat]? = _; rw [e3]; exact hm1
      · show (actM x a).l.fr = _; rw [e4]; exact hm2
      · show (actM x a).l.to = _; rw [e5]; exact hm3
      · show (actM x a).l.data = _; rw [e6]; exact hm4
      · intro hk2
        show (actM x a).l.rd ≤ (actM x a).x.now
        rcases hcase with ⟨-, c1, c2, -⟩ | ⟨c1, -⟩ | ⟨c1, -⟩ | ⟨c1, -⟩
        · rw [c2, e2]; exact c1
        all_goals omega
      · show c.all[(actM x a).l.id.toNat]? = _; rw [e3]; exact hq
    · have hwy : ∀ l' ∈ (actM x a).x.way, ∃ m, c.sent[l'.id.toNat]? = some m ∧ l'.fr = m.fr ∧ l'.to = m.to ∧ l'.data = m.data := by
        intro l' hl'
        rcases hcase with ⟨-, -, -, c4⟩ | ⟨-, c4⟩ | ⟨-, c4⟩ | ⟨-, l2, d1, d2, d3, d4, c4⟩
        · rw [c4] at hl'; exact hi.wy l' (List.mem_of_mem_eraseIdx hl')
        · rw [c4] at hl'; exact hi.wy l' (List.mem_of_mem_eraseIdx hl')
        · rw [c4] at hl'
          rcases List.mem_append.1 hl' with hl' | hl'
          · exact hi.wy l' hl'
          · obtain rfl := List.mem_singleton.1 hl'
            exact hi.wy l' hlm
        · rw [c4] at hl'
          rcases List.mem_or_eq_of_mem_set hl' with hl' | rfl
          · exact hi.wy l' hl'
          · exact ⟨m, by rw [d1]; exact hm1, by rw [d2]; exact hm2, by rw [d3]; exact hm3, by rw [d4]; exact hm4⟩
      have hj : ∀ (j : Nat), (l.id = (j : Int)) ↔ l.id.toNat = j := fun j => by omega
      have base : consS c ⟨a, 0, (actM x a).x.now, (actM x a).l, (actM x a).ts⟩ = if a.k = 4 then ⟨c.sent, c.all.modify l.id.toNat incA⟩ else if a.k = 2 ∨ a.k = 3 then ⟨c.sent, c.all.modify l.id.toNat outA⟩ else c := by
        unfold consS
        rw [if_neg (by simp; omega), if_neg h1, e3]
      rw [base]
      have hout : ∀ (ha : (actM x a).x.way = x.way.eraseIdx i), ConsI (k + 1) (actM x a).x ⟨c.sent, c.all.modify l.id.toNat outA⟩ := fun ha => by
        refine ⟨by rw [e1]; exact hls, by simp [hla], hwy, ?_, ?_, Nat.le_succ_of_le hi.ln⟩
        · intro j q hq'
          rw [ha, cnt_erase x.way i l j hl]
          rw [get_modify] at hq'
          by_cases hij : l.id.toNat = j
          · rw [if_pos hij] at hq'
            rw [if_pos ((hj j).2 hij)]
            obtain ⟨q0, h0, rfl⟩ := Option.map_eq_some_iff.1 hq'
            have := hi.ac j q0 h0
            simp only [outA]
            omega
          · rw [if_neg hij] at hq'
            rw [if_neg (fun h => hij ((hj j).1 h)), hi.ac j q hq']
            omega
        · intro j q hq'
          rw [get_modify] at hq'
          by_cases hij : l.id.toNat = j
          · rw [if_pos hij] at hq'
            obtain ⟨q0, h0, rfl⟩ := Option.map_eq_some_iff.1 hq'
            have := hi.bd j q0 h0
            simp only [outA]
            omega
          · rw [if_neg hij] at hq'
            have := hi.bd j q hq'
            omega
      rcases hcase with ⟨c1, -, -, c4⟩ | ⟨c1, c4⟩ | ⟨c1, c4⟩ | ⟨c1, l2, d1, d2, d3, d4, c4⟩
      · rw [if_neg (by omega), if_pos (.inl c1)]; exact hout c4
      · rw [if_neg (by omega), if_pos (.inr c1)]; exact hout c4
      · rw [if_pos c1]
        refine ⟨by rw [e1]; exact hls, by simp [hla], hwy, ?_, ?_, Nat.le_succ_of_le hi.ln⟩
        · intro j q hq'
          rw [c4, cnt_append, cnt_one]
          rw [get_modify] at hq'
          by_cases hij : l.id.toNat = j
          · rw [if_pos hij] at hq'
            rw [if_pos ((hj j).2 hij)]
            obtain ⟨q0, h0, rfl⟩ := Option.map_eq_some_iff.1 hq'
            have := hi.ac j q0 h0
            simp only [incA]
            omega
          · rw [if_neg hij] at hq'
            rw [if_neg (fun h => hij ((hj j).1 h)), hi.ac j q hq']
            omega
        · intro j q hq'
          rw [get_modify] at hq'
          by_cases hij : l.id.toNat = j
          · rw [if_pos hij] at hq'
            obtain ⟨q0, h0, rfl⟩ := Option.map_eq_some_iff.1 hq'
            have := hi.bd j q0 h0
            simp only [incA]
            omega
          · rw [if_neg hij] at hq'
            have := hi.bd j q hq'
            omega
      · rw [if_neg (by omega), if_neg (by omega)]
        refine ⟨by rw [e1]; exact hls, hla, hwy, ?_, ?_, Nat.le_succ_of_le hi.ln⟩
        · intro j q hq'
          rw [c4, cnt_set x.way i l l2 j hl d1]
          exact hi.ac j q hq'
        · intro j q hq'
          have := hi.bd j q hq'
          omega
/-- The law's state behind the first acts. -/
def consF : Cons → List Sn → Cons
  | c, [] => c
  | c, s :: r => consF (consS c s) r
theorem consF_snoc : ∀ (c : Cons) (l : List Sn) (s : Sn), consF c (l ++ [s]) = consS (consF c l) s
  | c, [], s => rfl
  | c, y :: r, s => by simp only [List.cons_append, consF, consF_snoc]
/-- Behind the letters that are on the way, too. -/
def outW : List Acct → List Lt → List Acct
  | c, [] => c
  | c, l :: r => outW (c.modify l.id.toNat outA) r
theorem outW_snoc : ∀ (c : List Acct) (l : List Lt) (s : Lt), outW c (l ++ [s]) = (outW c l).modify s.id.toNat outA
  | c, [], s => rfl
  | c, y :: r, s => by simp only [List.cons_append, outW, outW_snoc]
theorem outW_len : ∀ (c : List Acct) (l : List Lt), (outW c l).length = c.length
  | c, [] => rfl
  | c, y :: r => by rw [outW, outW_len]; simp
theorem outW_get : ∀ (way : List Lt) (c : List Acct) (j : Nat) (q : Acct), (∀ l ∈ way, 0 ≤ l.id) → c[j]? = some q → (outW c way)[j]? = some ⟨q.i, q.o + cnt way j⟩
  | [], c, j, q, _, h => by simp [outW, h, cnt]
  | l :: r, c, j, q, hw, h => by
    have hl := hw l (by simp)
    have h2 := cnt_append [l] r j
    rw [cnt_one] at h2
    simp only [List.singleton_append] at h2
    rw [outW]
    by_cases hij : l.id.toNat = j
    · rw [outW_get r _ j (outA q) (fun l' h' => hw l' (by simp [h'])) (by rw [get_modify, if_pos hij, h]; rfl), h2, if_pos (by omega)]
      simp only [outA, Option.some.injEq, Acct.mk.injEq, true_and]
      omega
    · rw [outW_get r _ j q (fun l' h' => hw l' (by simp [h'])) (by rw [get_modify, if_neg hij, h]), h2, if_neg (by omega)]
      simp
/-- All is counted. -/
theorem cons_end {k : Nat} {x : Nt} {c : Cons} (h : Ok x) (hi : ConsI k x c) (j : Nat) (q : Acct) (hq : (outW c.all x.way)[j]? = some q) : q.i = q.o := by
  have hj : j < c.all.length := by
    have := (List.getElem?_eq_some_iff.1 hq).1
    rwa [outW_len] at this
  have h0 : c.all[j]? = some c.all[j] := List.getElem?_eq_getElem hj
  rw [outW_get x.way c.all j _ (fun l hl => (letter_id h hl).1) h0] at hq
  have h1 := hi.ac j _ h0
  have h2 : q = ⟨c.all[j].i, c.all[j].o + cnt x.way j⟩ := (Option.some.inj hq).symm
  rw [h2]
  simp only
  omega
theorem cons_new {n : Int} : ConsI 0 ⟨n, 0, 0, [], [], []⟩ ⟨[], []⟩ := ⟨rfl, rfl, by simp, by simp, by simp, Nat.le_refl _⟩
end Go.Proofs.Ythlbmcfliejdiaa
end

section
set_option linter.unusedVariables false
set_option linter.unusedSimpArgs false
namespace Go.Proofs.Ythlbmcfliejdiaa
open Go.RowKit

theorem playS_take : ∀ (x : Nt) (l : List Ac) (n : Nat), playS x (l.take n) = (playS x l).take n
  | x, l, 0 => by simp [playS]
  | x, [], n + 1 => by simp [playS]
  | x, a :: l, n + 1 => by
    show doSR x a :: playS (doXR x a) (l.take n) = doSR x a :: (playS (doXR x a) l).take n
    rw [playS_take]
theorem playS_at : ∀ (x : Nt) (l : List Ac) (k : Nat) (a : Ac), l[k]? = some a → (playS x l)[k]? = some (doSR (playX x (l.take k)) a)
  | x, [], k, a, h => by simp at h
  | x, b :: l, 0, a, h => by
    have : b = a := by simpa using h
    subst this; rfl
  | x, b :: l, k + 1, a, h => playS_at (doXR x b) l k a (by simpa using h)
theorem playX_take {x : Nt} {l : List Ac} {k : Nat} {a : Ac} (h : l[k]? = some a) : playX x (l.take (k + 1)) = doXR (playX x (l.take k)) a := by
  rw [List.take_add_one, h]
  exact playX_snoc x _ a
theorem audit_all : ∀ (x : Nt) (l : List Ac) (i : Int), Ok x → auditF x (playS x l) i = (0, 0)
  | x, [], i, h => rfl
  | x, a :: l, i, h => by
    show auditF x (doSR x a :: playS (doXR x a) l) i = _
    unfold auditF
    rw [doS_a x a h, if_pos rfl]
    have h2 := do_keeps h a
    rw [← doXR_ok h] at h2
    exact audit_all _ l _ h2
/-- One other thing seen, of the same act: just that is found. -/
theorem audit_one : ∀ (x : Nt) (l : List Ac) (n : Nat) (s : Sn) (i : Int), Ok x → n < l.length → (∀ t, (playS x l)[n]? = some t → s.a = t.a) →
    auditF x ((playS x l).take n ++ s :: (playS x l).drop (n + 1)) i = if (playS x l)[n]? = some s then (0, 0) else (9, i + n)
  | x, [], n, s, i, h, hn, _ => by simp at hn
  | x, a :: l, 0, s, i, h, hn, hs => by
    have ha : s.a = a := by
      have := hs (doSR x a) rfl
      rw [this, doS_a x a h]
    show auditF x (s :: playS (doXR x a) l) i = if some (doSR x a) = some s then _ else _
    unfold auditF
    rw [ha]
    by_cases he : doSR x a = s
    · rw [if_pos he, if_pos (by rw [he])]
      have h2 := do_keeps h a
      rw [← doXR_ok h] at h2
      exact audit_all _ l _ h2
    · rw [if_neg he, if_neg (fun h => he (Option.some.inj h))]
      simp
  | x, a :: l, n + 1, s, i, h, hn, hs => by
    have h2 := do_keeps h a
    rw [← doXR_ok h] at h2
    have ih := audit_one (doXR x a) l n s (i + 1) h2 (by simpa using hn) (fun t ht => hs t ht)
    show auditF x (doSR x a :: ((playS (doXR x a) l).take n ++ s :: (playS (doXR x a) l).drop (n + 1))) i = if (playS (doXR x a) l)[n]? = some s then _ else _
    unfold auditF
    rw [doS_a x a h, if_pos rfl, ih]
    have e : i + 1 + (n : Int) = i + ((n + 1 : Nat) : Int) := by omega
    rw [e]
end Go.Proofs.Ythlbmcfliejdiaa
end

section
set_option linter.unusedVariables false
set_option linter.unusedSimpArgs false
namespace Go.Proofs.Ythlbmcfliejdiaa
open Go.RowKit

/-- What was seen, element by element. -/
theorem Rd.seen {w : World} {A : Option Addr} {rs : List SnR} {xs : List Sn} (h : Rd w A rs) (hs : Sns w rs xs) (i : Nat) (hi : i < rs.length) :
    ∃ b off s ta tc, A = some ⟨b, off, none⟩ ∧ Hid (xs[i]? = some s) ∧ Hid (Rd w ta s.ts) ∧ w.cell? ⟨b, off + i * 13, none⟩ = some (.int .i64 s.a.k) ∧ w.cell? ⟨b, off + i * 13 + 1, none⟩ = some (.int .i64 s.a.a) ∧ w.cell? ⟨b, off + i * 13 + 2, none⟩ = some (.int .i64 s.a.b) ∧ w.cell? ⟨b, off + i * 13 + 3, none⟩ = some (.int .i64 s.a.n) ∧ w.cell? ⟨b, off + i * 13 + 4, none⟩ = some (.string s.a.data) ∧
      w.cell? ⟨b, off + i * 13 + 5, none⟩ = some (.int .i64 s.e) ∧ w.cell? ⟨b, off + i * 13 + 6, none⟩ = some (.int .i64 s.now) ∧ w.cell? ⟨b, off + i * 13 + 7, none⟩ = some (.int .i64 s.l.id) ∧ w.cell? ⟨b, off + i * 13 + 8, none⟩ = some (.int .i64 s.l.fr) ∧ w.cell? ⟨b, off + i * 13 + 9, none⟩ = some (.int .i64 s.l.to) ∧ w.cell? ⟨b, off + i * 13 + 10, none⟩ = some (.int .i64 s.l.rd) ∧ w.cell? ⟨b, off + i * 13 + 11, none⟩ = some (.string s.l.data) ∧ w.cell? ⟨b, off + i * 13 + 12, none⟩ = some (.slice ta s.ts.length tc) := by
  obtain ⟨b, off, r, e, hx, hc⟩ := h.any i hi
  have hi2 : i < xs.length := by rw [← hs.1]; exact hi
  obtain ⟨h1, h2, h3, h4, h5, h6⟩ := hs.2 i r xs[i] hx.out (List.getElem?_eq_getElem hi2)
  obtain ⟨ra, re, rn, rl, rta, rtn, rtc⟩ := r
  simp only at h1 h2 h3 h4 h5 h6
  subst h1 h2 h3 h4 h5
  exact ⟨b, off, xs[i], rta, rtc, e, List.getElem?_eq_getElem hi2, h6, hc 0 _ rfl, hc 1 _ rfl, hc 2 _ rfl, hc 3 _ rfl, hc 4 _ rfl, hc 5 _ rfl, hc 6 _ rfl, hc 7 _ rfl, hc 8 _ rfl, hc 9 _ rfl, hc 10 _ rfl, hc 11 _ rfl, hc 12 _ rfl⟩
theorem seenS_get : ∀ (x : Nt) (xs : List Ac) (k : Nat) (d : Ac), xs[k]? = some d → (playS x xs)[k]? = some (doSR (playX x (xs.take k)) d)
  | x, [], k, d, h => by simp at h
  | x, b :: l, 0, d, h => by
    have : b = d := by simpa using h
    subst this; rfl
  | x, b :: l, k + 1, d, h => by
    have ih := seenS_get (doXR x b) l k d (by simpa using h)
    simpa [playS, playX] using ih
theorem seenX_snoc {x : Nt} {xs : List Ac} {k : Nat} {d : Ac} (h : xs[k]? = some d) : playX x (xs.take (k + 1)) = doXR (playX x (xs.take k)) d := by
  rw [List.take_add_one, h]; exact playX_snoc _ _ _
theorem seen_is {x : Nt} {xs : List Ac} {k : Nat} {s : Sn} (hx : Ok x) (h : (playS x xs)[k]? = some s) : ∃ d, xs[k]? = some d ∧ s.a = d ∧ s = doS (playX x (xs.take k)) d := by
  have hk := (List.getElem?_eq_some_iff.1 h).1
  rw [playS_length] at hk
  have hd : xs[k]? = some xs[k] := List.getElem?_eq_getElem hk
  rw [seenS_get x xs k _ hd] at h
  have hy := play_keeps (xs.take k) hx
  rw [doSR_ok hy] at h
  have hs := Option.some.inj h
  refine ⟨_, hd, ?_, hs.symm⟩
  rw [← hs]; unfold doS; split <;> rfl
theorem Own.rows {α : Type} [Enc α] {w : World} {B : Nat} {e : TypeId} {v : Value} {xs : List α} (h : Own w B e v xs) (hx : 0 < xs.length) : ∃ g cap, v = .slice (some ⟨g, 0, none⟩) xs.length cap := by
  rcases h.2 with ⟨_, h0⟩ | ⟨g, cap, cur, rfl, _⟩
  · omega
  · exact ⟨g, cap, rfl⟩
end Go.Proofs.Ythlbmcfliejdiaa
end

section
set_option linter.unusedVariables false
set_option linter.unusedSimpArgs false
namespace Go.Proofs.Ythlbmcfliejdiaa
open Go.RowKit
attribute [local go_sem high] eqATm eqALt eqAAc eqALk

theorem ac_eq (c d : Ac) : (c.k == d.k && (c.a == d.a && (c.b == d.b && (c.n == d.n && (c.data.toList == d.data.toList))))) = decide (c = d) := by
  rw [ba_eq, Bool.eq_iff_iff]
  cases c; cases d
  simp
theorem ac_ne {c d : Ac} (h : c ≠ d) : (!(c.k == d.k) || (!(c.a == d.a) || (!(c.b == d.b) || (!(c.n == d.n) || !(c.data.toList == d.data.toList))))) = true := by
  have h1 := (ac_eq c d).trans (decide_eq_false h)
  revert h1
  cases (c.k == d.k) <;> cases (c.a == d.a) <;> cases (c.b == d.b) <;> cases (c.n == d.n) <;> cases (c.data.toList == d.data.toList) <;> simp
set_option maxHeartbeats 2000000 in
set_option maxRecDepth 100000 in
theorem same_any (s1 s2 : Sn) (t1 t2 : Option Addr) (c1 c2 : Nat) (w : World) (h1 : Rd w t1 s1.ts) (h2 : Rd w t2 s2.ts) (hl : s1.ts.length ≤ 10000000) :
    Calls Try.prog 79 #[.agg #[.int .i64 s1.a.k, .int .i64 s1.a.a, .int .i64 s1.a.b, .int .i64 s1.a.n, .string s1.a.data, .int .i64 s1.e, .int .i64 s1.now, .int .i64 s1.l.id, .int .i64 s1.l.fr, .int .i64 s1.l.to, .int .i64 s1.l.rd, .string s1.l.data, .slice t1 s1.ts.length c1], .agg #[.int .i64 s2.a.k, .int .i64 s2.a.a, .int .i64 s2.a.b, .int .i64 s2.a.n, .string s2.a.data, .int .i64 s2.e, .int .i64 s2.now, .int .i64 s2.l.id, .int .i64 s2.l.fr, .int .i64 s2.l.to, .int .i64 s2.l.rd, .string s2.l.data, .slice t2 s2.ts.length c2]] w fun e w' => e = .returned (.bool (decide (s1 = s2))) ∧ Below w.heap.size w w' := by
  obtain ⟨a1, e1, n1, l1, r1⟩ := s1
  obtain ⟨a2, e2, n2, l2, r2⟩ := s2
  simp only at h1 h2 hl ⊢
  have H1 := Lib.hid h1
  have H2 := Lib.hid h2
  clear h1 h2
  by_cases ha : a1 = a2
  rotate_left 1
  · have hne : Hid (decide ((⟨a1, e1, n1, l1, r1⟩ : Sn) = ⟨a2, e2, n2, l2, r2⟩) = false) := decide_eq_false (by simp [ha])
    have hq := ac_ne ha
    have hq1 := (ac_eq a1 a2).trans (decide_eq_false ha)
    clear ha
    go_enter Try.func79, Try.ntmps79
    go_wp2
    go_ret
    exact ⟨ret_bool hne.out.symm, below_alloc (below_alloc (Below.refl _ _) _) _⟩
  subst ha
  by_cases he : e1 = e2
  rotate_left 1
  · have hne : Hid (decide ((⟨a1, e1, n1, l1, r1⟩ : Sn) = ⟨a1, e2, n2, l2, r2⟩) = false) := decide_eq_false (by simp [he])
    have hq : (e1 == e2) = false := beq_eq_false_iff_ne.2 he
    clear he
    go_enter Try.func79, Try.ntmps79
    go_wp2
    go_ret
    exact ⟨ret_bool hne.out.symm, below_alloc (below_alloc (Below.refl _ _) _) _⟩
  subst he
  by_cases hn : n1 = n2
  rotate_left 1
  · have hne : Hid (decide ((⟨a1, e1, n1, l1, r1⟩ : Sn) = ⟨a1, e1, n2, l2, r2⟩) = false) := decide_eq_false (by simp [hn])
    have hq : (n1 == n2) = false := beq_eq_false_iff_ne.2 hn
    clear hn
    go_enter Try.func79, Try.ntmps79
    go_wp2
    go_ret
    exact ⟨ret_bool hne.out.symm, below_alloc (below_alloc (Below.refl _ _) _) _⟩
  subst hn
  by_cases hlt : l1 = l2
  rotate_left 1
  · have hne : Hid (decide ((⟨a1, e1, n1, l1, r1⟩ : Sn) = ⟨a1, e1, n1, l2, r2⟩) = false) := decide_eq_false (by simp [hlt])
    have hq := lt_ne hlt
    have hq1 := (lt_eq l1 l2).trans (decide_eq_false hlt)
    clear hlt
    go_enter Try.func79, Try.ntmps79
    go_wp2
    go_ret
    exact ⟨ret_bool hne.out.symm, below_alloc (below_alloc (Below.refl _ _) _) _⟩
  subst hlt
  have heq : Hid (decide ((⟨a1, e1, n1, l1, r1⟩ : Sn) = ⟨a1, e1, n1, l1, r2⟩) = decide (r1 = r2)) := by show _ = _; simp
  go_enter Try.func79, Try.ntmps79
  go_wp2_with fail
  have hb0 : Below w.heap.size w ((w.alloc (.cells #[.int .i64 a1.k, .int .i64 a1.a, .int .i64 a1.b, .int .i64 a1.n, .string a1.data, .int .i64 e1, .int .i64 n1, .int .i64 l1.id, .int .i64 l1.fr, .int .i64 l1.to, .int .i64 l1.rd, .string l1.data, .slice t1 r1.length c1] 55)).alloc (.cells #[.int .i64 a1.k, .int .i64 a1.a, .int .i64 a1.b, .int .i64 a1.n, .string a1.data, .int .i64 e1, .int .i64 n1, .int .i64 l1.id, .int .i64 l1.fr, .int .i64 l1.to, .int .i64 l1.rd, .string l1.data, .slice t2 r2.length c2] 55)) := below_alloc (below_alloc (Below.refl _ _) _) _
  refine calls_below (EqualT_any t1 t2 c1 c2 r1 r2 _ (H1.out.below hb0) (H2.out.below hb0) hl) ?_
  intro w3 hb3
  have hb := below_trans hb0 hb3
  clear hb0
  obtain ⟨b, hbb⟩ : ∃ b, b = decide (r1 = r2) := ⟨_, rfl⟩
  rw [← hbb]
  have HBB := Lib.hid hbb
  clear hbb
  go_wp2
  go_ret
  exact ⟨ret_bool (HBB.out.trans heq.out.symm), hb⟩
set_option maxHeartbeats 2000000 in
set_option maxRecDepth 100000 in
theorem RSameSeen_any (s1 s2 : Sn) (t1 t2 : Option Addr) (c1 c2 : Nat) (w : World) (h1 : Rd w t1 s1.ts) (h2 : Rd w t2 s2.ts) (hl : s1.ts.length ≤ 10000000) :
    Calls Try.prog 38 #[.agg #[.int .i64 s1.a.k, .int .i64 s1.a.a, .int .i64 s1.a.b, .int .i64 s1.a.n, .string s1.a.data, .int .i64 s1.e, .int .i64 s1.now, .int .i64 s1.l.id, .int .i64 s1.l.fr, .int .i64 s1.l.to, .int .i64 s1.l.rd, .string s1.l.data, .slice t1 s1.ts.length c1], .agg #[.int .i64 s2.a.k, .int .i64 s2.a.a, .int .i64 s2.a.b, .int .i64 s2.a.n, .string s2.a.data, .int .i64 s2.e, .int .i64 s2.now, .int .i64 s2.l.id, .int .i64 s2.l.fr, .int .i64 s2.l.to, .int .i64 s2.l.rd, .string s2.l.data, .slice t2 s2.ts.length c2]] w fun e w' => e = .returned (.bool (decide (s1 = s2))) ∧ Below w.heap.size w w' := by
  obtain ⟨a1, e1, n1, l1, r1⟩ := s1
  obtain ⟨a2, e2, n2, l2, r2⟩ := s2
  simp only at h1 h2 hl ⊢
  have H1 := Lib.hid h1
  have H2 := Lib.hid h2
  clear h1 h2
  by_cases ha : a1 = a2
  rotate_left 1
  · have hne : Hid (decide ((⟨a1, e1, n1, l1, r1⟩ : Sn) = ⟨a2, e2, n2, l2, r2⟩) = false) := decide_eq_false (by simp [ha])
    have hq := ac_ne ha
    have hq1 := (ac_eq a1 a2).trans (decide_eq_false ha)
    clear ha
    go_enter Try.func38, Try.ntmps38
    go_wp2
    go_ret
    exact ⟨ret_bool hne.out.symm, below_alloc (below_alloc (Below.refl _ _) _) _⟩
  subst ha
  by_cases he : e1 = e2
  rotate_left 1
  · have hne : Hid (decide ((⟨a1, e1, n1, l1, r1⟩ : Sn) = ⟨a1, e2, n2, l2, r2⟩) = false) := decide_eq_false (by simp [he])
    have hq : (e1 == e2) = false := beq_eq_false_iff_ne.2 he
    clear he
    go_enter Try.func38, Try.ntmps38
    go_wp2
    go_ret
    exact ⟨ret_bool hne.out.symm, below_alloc (below_alloc (Below.refl _ _) _) _⟩
  subst he
  by_cases hn : n1 = n2
  rotate_left 1
  · have hne : Hid (decide ((⟨a1, e1, n1, l1, r1⟩ : Sn) = ⟨a1, e1, n2, l2, r2⟩) = false) := decide_eq_false (by simp [hn])
    have hq : (n1 == n2) = false := beq_eq_false_iff_ne.2 hn
    clear hn
    go_enter Try.func38, Try.ntmps38
    go_wp2
    go_ret
    exact ⟨ret_bool hne.out.symm, below_alloc (below_alloc (Below.refl _ _) _) _⟩
  subst hn
  by_cases hlt : l1 = l2
  rotate_left 1
  · have hne : Hid (decide ((⟨a1, e1, n1, l1, r1⟩ : Sn) = ⟨a1, e1, n1, l2, r2⟩) = false) := decide_eq_false (by simp [hlt])
    have hq := lt_ne hlt
    have hq1 := (lt_eq l1 l2).trans (decide_eq_false hlt)
    clear hlt
    go_enter Try.func38, Try.ntmps38
    go_wp2
    go_ret
    exact ⟨ret_bool hne.out.symm, below_alloc (below_alloc (Below.refl _ _) _) _⟩
  subst hlt
  have heq : Hid (decide ((⟨a1, e1, n1, l1, r1⟩ : Sn) = ⟨a1, e1, n1, l1, r2⟩) = decide (r1 = r2)) := by show _ = _; simp
  go_enter Try.func38, Try.ntmps38
  go_wp2_with fail
  have hb0 : Below w.heap.size w ((w.alloc (.cells #[.int .i64 a1.k, .int .i64 a1.a, .int .i64 a1.b, .int .i64 a1.n, .string a1.data, .int .i64 e1, .int .i64 n1, .int .i64 l1.id, .int .i64 l1.fr, .int .i64 l1.to, .int .i64 l1.rd, .string l1.data, .slice t1 r1.length c1] 55)).alloc (.cells #[.int .i64 a1.k, .int .i64 a1.a, .int .i64 a1.b, .int .i64 a1.n, .string a1.data, .int .i64 e1, .int .i64 n1, .int .i64 l1.id, .int .i64 l1.fr, .int .i64 l1.to, .int .i64 l1.rd, .string l1.data, .slice t2 r2.length c2] 55)) := below_alloc (below_alloc (Below.refl _ _) _) _
  refine calls_below (RSameTimers_any t1 t2 c1 c2 r1 r2 _ (H1.out.below hb0) (H2.out.below hb0) hl) ?_
  intro w3 hb3
  have hb := below_trans hb0 hb3
  clear hb0
  obtain ⟨b, hbb⟩ : ∃ b, b = decide (r1 = r2) := ⟨_, rfl⟩
  rw [← hbb]
  have HBB := Lib.hid hbb
  clear hbb
  go_wp2
  go_ret
  exact ⟨ret_bool (HBB.out.trans heq.out.symm), hb⟩
set_option maxHeartbeats 2000000 in
set_option maxRecDepth 100000 in
theorem RSameLog_any (A1 A2 : Option Addr) (c1 c2 : Nat) (rs1 rs2 : List SnR) (xs ys : List Sn) (w : World) (h1 : Rd w A1 rs1) (h2 : Rd w A2 rs2) (g1 : Sns w rs1 xs) (g2 : Sns w rs2 ys) (hl : xs.length ≤ 10000000) (hts : ∀ s ∈ xs, s.ts.length ≤ 10000000) :
    Calls Try.prog 37 #[.slice A1 xs.length c1, .slice A2 ys.length c2] w fun e w' => e = .returned (.bool (decide (xs = ys))) ∧ Below w.heap.size w w' := by
  have HTS := Lib.hid hts
  clear hts
  by_cases hlen : xs.length = ys.length
  · have q1 : (xs.length == ys.length) = true := by simpa using hlen
    have q2 : (xs.length != ys.length) = false := by simpa using hlen
    have q3 : ((xs.length : Int) == (ys.length : Int)) = true := by rw [beq_iff_eq]; omega
    have q4 : ((xs.length : Int) != (ys.length : Int)) = false := by rw [bne_eq_false_iff_eq]; omega
    have HLE := Lib.hid hlen
    have H1 := Lib.hid h1
    have H2 := Lib.hid h2
    have G1 := Lib.hid g1
    have G2 := Lib.hid g2
    clear hlen h1 h2 g1 g2
    go_enter Try.func37, Try.ntmps37
    go_wp2
    go_loopw [5] (fun i wr => ∃ k : Nat, k ≤ xs.length ∧ i = .int .i64 k ∧ Hid (xs.take k = ys.take k) ∧ Hid (Below w.heap.size w wr)) (fun i _ => xs.length - (intOf i).toNat)
    case atStart => exact ⟨0, Nat.zero_le _, rfl, rfl, Below.refl _ _⟩
    case round =>
      obtain ⟨k, hk, rfl, ho, hB⟩ := hrel
      by_cases hlt : k < xs.length
      · have hlt2 : k < ys.length := by have := HLE.out; omega
        have d1 : decide (k < xs.length) = true := by simpa using hlt
        obtain ⟨b1, off1, x, ta1, tc1, rfl, hx, hr1, c0, c1, c2, c3, c4, c5, c6, c7, c8, c9, c10, c11, c12⟩ := (H1.out.below hB.out).seen (G1.out.below hB.out) k (by rw [G1.out.1]; exact hlt)
        obtain ⟨b2, off2, y, ta2, tc2, rfl, hy, hr2, e0, e1, e2, e3, e4, e5, e6, e7, e8, e9, e10, e11, e12⟩ := (H2.out.below hB.out).seen (G2.out.below hB.out) k (by rw [G2.out.1]; exact hlt2)
        have hbt1 : b1 < wr.heap.size := World.block_lt_of_cell? wr _ c0
        have hbt2 : b2 < wr.heap.size := World.block_lt_of_cell? wr _ e0
        have hxl := HTS.out x (mem_at hx.out)
        have hs := eq_step hx hy ho.out
        have HSE := Lib.hid hs
        clear hs
        go_wp2
        refine wp_still_tail 8 (by kernel_rfl) (by kernel_rfl) ?_
        simp only [List.take_succ_cons, List.take_zero, List.drop_succ_cons, List.drop_zero]
        repeat still_step
        refine wpStill_nil ?_
        go_wp2_with fail
        refine calls_below (RSameSeen_any x y ta1 ta2 tc1 tc2 _ (Rd.drew hr1.out) (Rd.drew hr2.out) hxl) ?_
        intro w3 hb3
        have HB3 := Lib.hid (below_trans hB.out (below_trans (Below.refl _ wr).drew hb3))
        clear hb3
        by_cases hxy : x = y
        · have hn := Lib.hid (HSE.out.1 hxy)
          rw [decide_eq_true hxy]
          clear hxy
          go_wp2
          go_roundw
          case rel => exact ⟨k + 1, by omega, by go_num, hn.out, HB3.out⟩
          case measure => simp [intOf]; omega
        · have hn := Lib.hid (HSE.out.2 hxy)
          rw [decide_eq_false hxy]
          clear hxy
          go_wp2
          go_ret
          exact ⟨ret_bool (decide_eq_false hn.out).symm, HB3.out⟩
      · have d1 : decide (k < xs.length) = false := by simpa using hlt
        have hkl : k = xs.length := by omega
        have HKL := Lib.hid hkl
        clear hkl
        go_wp2
        go_ret
        have he : xs = ys := by
          have h := ho.out
          rw [HKL.out, List.take_length, HLE.out, List.take_length] at h
          exact h
        exact ⟨ret_bool (decide_eq_true he).symm, hB.out⟩
  · have q1 : (xs.length == ys.length) = false := by simpa using hlen
    have q2 : (xs.length != ys.length) = true := by simpa using hlen
    have q3 : ((xs.length : Int) == (ys.length : Int)) = false := by rw [beq_eq_false_iff_ne]; omega
    have q4 : ((xs.length : Int) != (ys.length : Int)) = true := by rw [bne_iff_ne]; omega
    have hne : Hid (xs ≠ ys) := fun h => hlen (by rw [h])
    clear hlen
    go_enter Try.func37, Try.ntmps37
    go_wp2
    go_ret
    exact ⟨ret_bool (decide_eq_false hne.out).symm, Below.refl _ _⟩
end Go.Proofs.Ythlbmcfliejdiaa
end

section
set_option linter.unusedVariables false
set_option linter.unusedSimpArgs false
namespace Go.Proofs.Ythlbmcfliejdiaa
open Go.RowKit

theorem audit_cons (x : Nt) (s : Sn) (l : List Sn) (i : Int) : auditF x (s :: l) i = if doSR x s.a = s then auditF (doXR x s.a) l (i + 1) else (9, i) := rfl
theorem doSR_ts (x : Nt) (a : Ac) (h : Ok x) : (doSR x a).ts.length ≤ 300 := by
  rw [doSR_ok h]
  unfold doS
  split
  · show (actM x a).ts.length ≤ 300
    unfold actM
    split
    · rw [ts_send]; simp
    split
    · rw [ts_deliver]; simp
    split
    · rw [ts_lose]; simp
    split
    · rw [ts_double]; simp
    split
    · rw [ts_delay]; simp
    split
    · rw [ts_cut]; simp
    split
    · rw [ts_heal]; simp
    split
    · rw [ts_set]; simp
    split
    · rw [ts_stop]; simp
    split
    · have h1 := h.tms
      unfold tickM
      split
      · simp [errR]
      · exact Nat.le_trans (List.length_filter_le _ _) (by omega)
    · simp [errR]
  · simp
set_option maxHeartbeats 1000000 in
set_option maxRecDepth 100000 in
theorem Audit_bad (n : Int) (v : Value) (w : World) (h : n < 1 ∨ 16 < n) : Calls Try.prog 39 #[.int .i64 n, v] w fun e w' => e = .returned (.tuple #[.int .i64 1, .int .i64 0]) ∧ Below w.heap.size w w' := by
  have HN := Lib.hid (fun W => New_bad n W h)
  clear h
  go_enter Try.func39, Try.ntmps39
  go_wp2_with (go_at_call 14; refine (HN.out _).mono ?_; rintro e w1 ⟨rfl, hb1⟩; simp only [zNetV])
  go_ret2
  exact ⟨rfl, below_alloc hb1 _⟩
set_option maxHeartbeats 4000000 in
set_option maxRecDepth 100000 in
theorem Audit_good (n : Int) (xs : List Sn) (rs : List SnR) (A : Option Addr) (c : Nat) (w : World) (h0 : 1 ≤ n) (h1 : n ≤ 16) (hR : Rd w A rs) (hS : Sns w rs xs) (hl : xs.length ≤ 1000000) :
    Calls Try.prog 39 #[.int .i64 n, .slice A xs.length c] w fun e w' => e = .returned (.tuple #[.int .i64 (auditF (newX n) xs 0).1, .int .i64 (auditF (newX n) xs 0).2]) ∧ Below w.heap.size w w' := by
  have HX0 := Lib.hid (newX_ok h0 h1)
  have HN := Lib.hid (fun W => New_ok n W h0 h1)
  have HR := Lib.hid hR
  have HSS := Lib.hid hS
  obtain ⟨x0, hx0⟩ : ∃ x0, x0 = newX n := ⟨_, rfl⟩
  have HXE := Lib.hid hx0
  rw [← hx0] at HX0 ⊢
  obtain ⟨R, hRR⟩ : ∃ R, R = auditF x0 xs 0 := ⟨_, rfl⟩
  have HRR := Lib.hid hRR
  rw [← hRR]
  clear hR hx0 hS hRR
  go_enter Try.func39, Try.ntmps39
  go_wp2_with (go_at_call 14; refine (HN.out _).mono ?_; rintro e w1 ⟨rfl, hb1⟩)
  obtain ⟨W1, hW1⟩ : ∃ W1, W1 = w1.alloc (.cells #[.int .i64 n, .int .i64 0, .int .i64 0, .slice none 0 0, .slice none 0 0, .slice none 0 0] 26) := ⟨_, rfl⟩
  rw [← hW1]
  have HB2 : Hid (Below w.heap.size w W1) := by rw [hW1]; exact below_alloc hb1 _
  have HN1 : Hid (W1.heap[w1.heap.size]? = some (.cells #[.int .i64 n, .int .i64 0, .int .i64 0, .slice none 0 0, .slice none 0 0, .slice none 0 0] 26 (0, 0))) := by rw [hW1]; exact bl_new _ _
  have hbw : w.heap.size ≤ w1.heap.size := hb1.size
  clear hW1 hb1
  obtain ⟨bn, hbn⟩ : ∃ bn, bn = w1.heap.size := ⟨_, rfl⟩
  rw [← hbn] at HN1 hbw ⊢
  clear hbn
  go_loopw [21] (fun i wr => ∃ (k : Nat) (AW : Option Addr) (cW : Nat) (AC : Option Addr) (cC : Nat) (AT : Option Addr) (cT : Nat) (x : Nt), k ≤ xs.length ∧ i = .int .i64 k ∧ Hid (Ok x) ∧ Hid (R = auditF x (xs.drop k) (k : Int)) ∧
    Hid (wr.heap[bn]? = some (.cells #[.int .i64 x.nodes, .int .i64 x.now, .int .i64 x.next, .slice AW x.way.length cW, .slice AC x.cuts.length cC, .slice AT x.timers.length cT] 26 (0, 0))) ∧ Hid (NetV wr (.agg #[.int .i64 x.nodes, .int .i64 x.now, .int .i64 x.next, .slice AW x.way.length cW, .slice AC x.cuts.length cC, .slice AT x.timers.length cT]) x) ∧ Hid (Below w.heap.size w wr)) (fun i _ => xs.length - (intOf i).toNat)
  case atStart =>
    refine ⟨0, none, 0, none, 0, none, 0, x0, Nat.zero_le _, rfl, HX0, ?_, ?_, ?_, HB2⟩
    · show R = _; rw [HRR.out]; rfl
    · show _ = _; rw [HXE.out]; exact HN1.out
    · show NetV _ _ _; rw [HXE.out]; exact ⟨none, 0, none, 0, none, 0, rfl, Rd.nil _ _, Rd.nil _ _, Rd.nil _ _⟩
  case round =>
    clear HB2 HN1 HN
    obtain ⟨k, AW, cW, AC, cC, AT, cT, x, hk, rfl, HXK, HAU, HBN, HV, HB⟩ := hrel
    have hnw := bl_lt HBN.out
    have hw := HB.out.size
    obtain ⟨⟨k0, k1, k2, k3, k4, k5⟩, f0, f1, f2, f3, f4, f5⟩ := blc6 HBN.out
    have xw := HXK.out.way
    have xc := HXK.out.cuts256
    have xt := HXK.out.tms
    by_cases hlt : k < xs.length
    · obtain ⟨bb, off, s, ta, tc, rfl, hs, hts, c0, c1, c2, c3, c4, c5, c6, c7, c8, c9, c10, c11, c12⟩ := HR.out.seen HSS.out k (by rw [HSS.out.1]; exact hlt)
      replace c0 := cell_below HB.out c0
      replace c1 := cell_below HB.out c1
      replace c2 := cell_below HB.out c2
      replace c3 := cell_below HB.out c3
      replace c4 := cell_below HB.out c4
      replace c5 := cell_below HB.out c5
      replace c6 := cell_below HB.out c6
      replace c7 := cell_below HB.out c7
      replace c8 := cell_below HB.out c8
      replace c9 := cell_below HB.out c9
      replace c10 := cell_below HB.out c10
      replace c11 := cell_below HB.out c11
      replace c12 := cell_below HB.out c12
      have hbt : bb < wr.heap.size := World.block_lt_of_cell? wr _ c0
      have hau := HAU.out
      rw [drop_at hs, audit_cons] at hau
      obtain ⟨y, hy⟩ : ∃ y, y = doXR x s.a := ⟨_, rfl⟩
      obtain ⟨z, hz⟩ : ∃ z, z = doSR x s.a := ⟨_, rfl⟩
      have hdo := fun (v : Value) (w : World) => Do_any x s.a v w (by omega) (by omega) (by omega)
      have hzl := doSR_ts x s.a HXK.out
      have hoy : Ok y := by rw [hy, doXR_ok HXK.out]; exact do_keeps HXK.out _
      unfold doQ at hdo
      rw [← hy, ← hz] at hdo hau
      rw [← hz] at hzl
      have HDO := Lib.hid hdo
      have HOY := Lib.hid hoy
      have HAN := Lib.hid hau
      clear hdo hy hz hau hoy
      go_upto_region 8 with fail
      obtain ⟨w2, hw2⟩ : ∃ w2, w2 = (wr.alloc (.cells #[.int .i64 s.a.k, .int .i64 s.a.a, .int .i64 s.a.b, .int .i64 s.a.n, .string s.a.data, .int .i64 s.e, .int .i64 s.now, .int .i64 s.l.id, .int .i64 s.l.fr, .int .i64 s.l.to, .int .i64 s.l.rd, .string s.l.data, .slice ta s.ts.length tc] 55)).alloc (.cells #[.int .i64 0, .int .i64 0, .int .i64 0, .int .i64 0, .string ⟨#[]⟩, .int .i64 0, .int .i64 0, .int .i64 0, .int .i64 0, .int .i64 0, .int .i64 0, .string ⟨#[]⟩, .slice none 0 0] 55) := ⟨_, rfl⟩
      have hb2 : Below wr.heap.size wr w2 := by rw [hw2]; exact below_alloc (below_alloc (Below.refl _ _) _) _
      have hs2 : w2.heap.size = wr.heap.size + 2 := by rw [hw2]; simp
      have h9 : w2.heap[wr.heap.size]? = some (.cells #[.int .i64 s.a.k, .int .i64 s.a.a, .int .i64 s.a.b, .int .i64 s.a.n, .string s.a.data, .int .i64 s.e, .int .i64 s.now, .int .i64 s.l.id, .int .i64 s.l.fr, .int .i64 s.l.to, .int .i64 s.l.rd, .string s.l.data, .slice ta s.ts.length tc] 55 (0, 0)) := by rw [hw2]; exact bl_alloc (bl_new _ _) _
      have h10 : w2.heap[wr.heap.size + 1]? = some (.cells #[.int .i64 0, .int .i64 0, .int .i64 0, .int .i64 0, .string ⟨#[]⟩, .int .i64 0, .int .i64 0, .int .i64 0, .int .i64 0, .int .i64 0, .int .i64 0, .string ⟨#[]⟩, .slice none 0 0] 55 (0, 0)) := by rw [hw2]; exact bl_newS (by simp)
      have hbn2 := bl_below HBN.out hb2
      rw [← hw2]
      clear hw2 k0 k1 k2 k3 k4 k5 f0 f1 f2 f3 f4 f5 c0 c1 c2 c3 c4 c5 c6 c7 c8 c9 c10 c11 c12 hbt
      obtain ⟨⟨k0, k1, k2, k3, k4, k5⟩, f0, f1, f2, f3, f4, f5⟩ := blc6 hbn2
      obtain ⟨⟨d0, d1, d2, d3, d4, d5, d6, d7, d8, d9, d10, d11, d12⟩, -⟩ := blc13 h9
      have l2 := bl_lt hbn2
      have l9 := bl_lt h9
      have HV2 := Lib.hid (HV.out.below hb2)
      have HB2 := Lib.hid (HB.out.trans (hb2.mono hw))
      have HT2 := hts
      have H9 := Lib.hid h9
      have H10 := Lib.hid h10
      have HBN2 := Lib.hid hbn2
      clear h9 h10 hbn2 hb2
      go_wp2_with fail
      refine (HDO.out _ _ HV2.out).mono ?_
      rintro e wd ⟨v', u, rfl, hU, hV', hbd⟩
      obtain ⟨AU, cU, rfl, -, -⟩ := hU.slice
      obtain ⟨AW3, cW3, AC3, cC3, AT3, cT3, rfl, rW3, rC3, rT3⟩ := hV'
      have HV3 : Hid (NetO wd w2.heap.size (.agg #[.int .i64 y.nodes, .int .i64 y.now, .int .i64 y.next, .slice AW3 y.way.length cW3, .slice AC3 y.cuts.length cC3, .slice AT3 y.timers.length cT3]) y) := ⟨AW3, cW3, AC3, cC3, AT3, cT3, rfl, rW3, rC3, rT3⟩
      have HU := Lib.hid hU
      have HBD := Lib.hid hbd
      have hbn3 := bl_below HBN2.out hbd
      have h93 := bl_below H9.out hbd
      have h103 := bl_below H10.out hbd
      have HBN3 := Lib.hid hbn3
      have H93 := Lib.hid h93
      have H103 := Lib.hid h103
      clear rW3 rC3 rT3 hU hbd k0 k1 k2 k3 k4 k5 f0 f1 f2 f3 f4 f5 d0 d1 d2 d3 d4 d5 d6 d7 d8 d9 d10 d11 d12 l2 l9 h93
      obtain ⟨⟨k0, k1, k2, k3, k4, k5⟩, f0, f1, f2, f3, f4, f5⟩ := blc6 hbn3
      obtain ⟨⟨d0, d1, d2, d3, d4, d5, d6, d7, d8, d9, d10, d11, d12⟩, e0, e1, e2, e3, e4, e5, e6, e7, e8, e9, e10, e11, e12⟩ := blc13 h103
      have ln := bl_lt hbn3
      have l12 := bl_lt h103
      have x1 : ¬ bn = wr.heap.size + 1 := by omega
      have x2 : ¬ wr.heap.size + 1 = bn := by omega
      clear hbn3 h103
      go_upto_region 9 with fail
      obtain ⟨Wq, hWq⟩ : ∃ Wq, Wq = put13 ((((((wd.setCell ⟨bn, 0, none⟩ (.int .i64 y.nodes)).setCell ⟨bn, 1, none⟩ (.int .i64 y.now)).setCell ⟨bn, 2, none⟩ (.int .i64 y.next)).setCell ⟨bn, 3, none⟩ (.slice AW3 y.way.length cW3)).setCell ⟨bn, 4, none⟩ (.slice AC3 y.cuts.length cC3)).setCell ⟨bn, 5, none⟩ (.slice AT3 y.timers.length cT3)) (wr.heap.size + 1) (.int .i64 z.a.k) (.int .i64 z.a.a) (.int .i64 z.a.b) (.int .i64 z.a.n) (.string z.a.data) (.int .i64 z.e) (.int .i64 z.now) (.int .i64 z.l.id) (.int .i64 z.l.fr) (.int .i64 z.l.to) (.int .i64 z.l.rd) (.string z.l.data) (.slice AU z.ts.length cU) := ⟨_, rfl⟩
      have hqs : Wq.heap.size = wd.heap.size := by rw [hWq, put13_size]; simp [World.setCell]
      have HQN : Hid (Wq.heap[bn]? = some (.cells #[.int .i64 y.nodes, .int .i64 y.now, .int .i64 y.next, .slice AW3 y.way.length cW3, .slice AC3 y.cuts.length cC3, .slice AT3 y.timers.length cT3] 26 (0, 0))) := by rw [hWq]; exact put13_far (bl_all6 HBN3.out _ _ _ _ _ _) x1
      have HQ9 : Hid (Wq.heap[wr.heap.size]? = some (.cells #[.int .i64 s.a.k, .int .i64 s.a.a, .int .i64 s.a.b, .int .i64 s.a.n, .string s.a.data, .int .i64 s.e, .int .i64 s.now, .int .i64 s.l.id, .int .i64 s.l.fr, .int .i64 s.l.to, .int .i64 s.l.rd, .string s.l.data, .slice ta s.ts.length tc] 55 (0, 0))) := by rw [hWq]; exact put13_far (bl_far6 H93.out (by omega) _ _ _ _ _ _) (by omega)
      have HQ10 : Hid (Wq.heap[wr.heap.size + 1]? = some (.cells #[.int .i64 z.a.k, .int .i64 z.a.a, .int .i64 z.a.b, .int .i64 z.a.n, .string z.a.data, .int .i64 z.e, .int .i64 z.now, .int .i64 z.l.id, .int .i64 z.l.fr, .int .i64 z.l.to, .int .i64 z.l.rd, .string z.l.data, .slice AU z.ts.length cU] 55 (0, 0))) := by rw [hWq]; exact put13_all (bl_far6 H103.out (by omega) _ _ _ _ _ _)
      have HQB : Hid (Below w.heap.size w Wq) := by rw [hWq]; exact put13_below (below_set6 (HB2.out.trans (HBD.out.mono HB2.out.size)) (by omega) _ _ _ _ _ _) (by omega)
      have HQU : Hid (Own Wq w2.heap.size 86 (.slice AU z.ts.length cU) z.ts) := by
        rw [hWq]
        refine put13_own ?_ (fun h => by have := (HU.out.lt _ h).1; omega)
        repeat (refine Own.far ?_ (by show bn < w2.heap.size; omega) _)
        exact HU.out
      have HQV : Hid (NetV Wq (.agg #[.int .i64 y.nodes, .int .i64 y.now, .int .i64 y.next, .slice AW3 y.way.length cW3, .slice AC3 y.cuts.length cC3, .slice AT3 y.timers.length cT3]) y) := by
        rw [hWq]
        exact (put13_net (HV3.out.far6 (by omega) _ _ _ _ _ _) (by omega)).netV
      have HQT : Hid (Rd Wq ta s.ts) := HT2.out.below HQB.out
      change Code.wp _ _ _ _ (put13 ((((((wd.setCell ⟨bn, 0, none⟩ (.int .i64 y.nodes)).setCell ⟨bn, 1, none⟩ (.int .i64 y.now)).setCell ⟨bn, 2, none⟩ (.int .i64 y.next)).setCell ⟨bn, 3, none⟩ (.slice AW3 y.way.length cW3)).setCell ⟨bn, 4, none⟩ (.slice AC3 y.cuts.length cC3)).setCell ⟨bn, 5, none⟩ (.slice AT3 y.timers.length cT3)) (wr.heap.size + 1) (.int .i64 z.a.k) (.int .i64 z.a.a) (.int .i64 z.a.b) (.int .i64 z.a.n) (.string z.a.data) (.int .i64 z.e) (.int .i64 z.now) (.int .i64 z.l.id) (.int .i64 z.l.fr) (.int .i64 z.l.to) (.int .i64 z.l.rd) (.string z.l.data) (.slice AU z.ts.length cU))
      rw [← hWq]
      clear hWq hqs HU HBD HBN3 H93 H103 HV3 HB2 HV2 H9 H10 HBN2 HDO k0 k1 k2 k3 k4 k5 f0 f1 f2 f3 f4 f5 d0 d1 d2 d3 d4 d5 d6 d7 d8 d9 d10 d11 d12 e0 e1 e2 e3 e4 e5 e6 e7 e8 e9 e10 e11 e12 ln l12 x1 x2
      obtain ⟨⟨d0, d1, d2, d3, d4, d5, d6, d7, d8, d9, d10, d11, d12⟩, -⟩ := blc13 HQ10.out
      obtain ⟨⟨e0, e1, e2, e3, e4, e5, e6, e7, e8, e9, e10, e11, e12⟩, -⟩ := blc13 HQ9.out
      have l9 := bl_lt HQ9.out
      have l10 := bl_lt HQ10.out
      have hl10 : wr.heap.size < Wq.heap.size := by omega
      go_wp2_with fail
      refine calls_below (same_any z s AU ta cU tc _ (Own.rd HQU.out) HQT.out (by omega)) ?_
      intro w5 hb5
      have HB5 := Lib.hid (HQB.out.trans (hb5.mono HQB.out.size))
      have HN5 := Lib.hid (bl_below HQN.out hb5)
      have HV5 := Lib.hid (HQV.out.below hb5)
      clear d0 d1 d2 d3 d4 d5 d6 d7 d8 d9 d10 d11 d12 e0 e1 e2 e3 e4 e5 e6 e7 e8 e9 e10 e11 e12 hb5 l9 l10 hl10
      by_cases hzs : z = s
      · have hau : Hid (R = auditF y (xs.drop (k + 1)) ((k : Int) + 1)) := HAN.out.trans (if_pos hzs)
        rw [decide_eq_true hzs]
        clear hzs
        go_wp2
        go_roundw
        case rel => exact ⟨k + 1, AW3, cW3, AC3, cC3, AT3, cT3, y, by omega, by go_num, HOY, by show R = _; rw [hau.out]; rfl, HN5, HV5, HB5⟩
        case measure => simp [intOf]; omega
      · have hau : Hid (R = (9, (k : Int))) := HAN.out.trans (if_neg hzs)
        rw [decide_eq_false hzs]
        clear hzs
        go_wp2
        go_ret2
        exact ⟨by have h := hau.out; subst h; rfl, HB5.out⟩
    · have hkl : xs.drop k = [] := List.drop_of_length_le (by omega)
      have hau : Hid (R = (0, 0)) := by show R = _; rw [HAU.out, hkl]; rfl
      clear hkl k0 k1 k2 k3 k4 k5 f0 f1 f2 f3 f4 f5
      go_wp2
      go_ret2
      exact ⟨by have h := hau.out; subst h; rfl, HB.out⟩
end Go.Proofs.Ythlbmcfliejdiaa
end

section
set_option linter.unusedVariables false
set_option linter.unusedSimpArgs false
namespace Go.Proofs.Ythlbmcfliejdiaa
open Go.RowKit
attribute [local go_sem high] eqATm eqALt eqAAc eqALk

theorem own_far6 {α : Type} [Enc α] {w : World} {B b : Nat} {e : TypeId} {v : Value} {xs : List α} (h : Own w B e v xs) (hp : b < B) (a0 a1 a2 a3 a4 a5 : Value) :
    Own ((((((w.setCell ⟨b, 0, none⟩ a0).setCell ⟨b, 1, none⟩ a1).setCell ⟨b, 2, none⟩ a2).setCell ⟨b, 3, none⟩ a3).setCell ⟨b, 4, none⟩ a4).setCell ⟨b, 5, none⟩ a5) B e v xs :=
  (((((h.far (p := ⟨b, 0, none⟩) hp _).far (p := ⟨b, 1, none⟩) hp _).far (p := ⟨b, 2, none⟩) hp _).far (p := ⟨b, 3, none⟩) hp _).far (p := ⟨b, 4, none⟩) hp _).far (p := ⟨b, 5, none⟩) hp _
theorem put13_ownF {α : Type} [Enc α] {w : World} {B b : Nat} {e : TypeId} {v : Value} {xs : List α} {a0 a1 a2 a3 a4 a5 a6 a7 a8 a9 a10 a11 a12 : Value} (h : Own w B e v xs) (hb : b < B) : Own (put13 w b a0 a1 a2 a3 a4 a5 a6 a7 a8 a9 a10 a11 a12) B e v xs :=
  put13_own h (fun e => by have := (h.lt _ e).1; omega)
theorem Do_own {x : Nt} {a : Ac} {y : Nt} {s : Sn} {k : Int} (hy : y = doXR x a) (hs : s = doSR x a) (hk : k = doER x) (v : Value) (w : World) (hlw : x.way.length ≤ 300) (hlc : x.cuts.length ≤ 300) (hlt : x.timers.length ≤ 300) (hV : NetV w v x) :
    Calls Try.prog 34 #[v, .agg #[.int .i64 a.k, .int .i64 a.a, .int .i64 a.b, .int .i64 a.n, .string a.data]] w fun e w' => ∃ AW cW AC cC AT cT A c, e = .returned (.tuple #[.agg #[.int .i64 y.nodes, .int .i64 y.now, .int .i64 y.next, .slice AW y.way.length cW, .slice AC y.cuts.length cC, .slice AT y.timers.length cT], .agg #[.int .i64 s.a.k, .int .i64 s.a.a, .int .i64 s.a.b, .int .i64 s.a.n, .string s.a.data, .int .i64 s.e, .int .i64 s.now, .int .i64 s.l.id, .int .i64 s.l.fr, .int .i64 s.l.to, .int .i64 s.l.rd, .string s.l.data, .slice A s.ts.length c], .int .i64 k]) ∧
      NetO w' w.heap.size (.agg #[.int .i64 y.nodes, .int .i64 y.now, .int .i64 y.next, .slice AW y.way.length cW, .slice AC y.cuts.length cC, .slice AT y.timers.length cT]) y ∧ Own w' w.heap.size 86 (.slice A s.ts.length c) s.ts ∧ Below w.heap.size w w' := by
  subst hy hs hk
  refine (Do_any x a v w (by omega) (by omega) (by omega) hV).mono fun e w' h => ?_
  obtain ⟨v', u, rfl, hu, hn, hb⟩ := h
  obtain ⟨A, c, rfl, -, -⟩ := hu.slice
  obtain ⟨AW, cW, AC, cC, AT, cT, rfl, h1, h2, h3⟩ := hn
  exact ⟨AW, cW, AC, cC, AT, cT, A, c, rfl, ⟨AW, cW, AC, cC, AT, cT, rfl, h1, h2, h3⟩, hu, hb⟩
/-- The first loop's body of a code. -/
def loopR : Code → Option Code
  | .loop c => some c
  | .seq a b => match loopR a with
    | some c => some c
    | none => loopR b
  | .block _ c => loopR c
  | .scope c => loopR c
  | .cond _ a b => match loopR a with
    | some c => some c
    | none => loopR b
  | _ => none
noncomputable def repBody : Code := ((Try.f9.body.bind loopR).getD .skip)
set_option maxRecDepth 100000 in
theorem str_all (f : Nat → Value) : st 185 f = ⟨#[f 0, f 1, f 2, f 3, f 4, f 5, f 6, f 7, f 8, f 9, f 10, f 11, f 12, f 13, f 14, f 15, f 16, f 17, f 18, f 19, f 20, f 21, f 22, f 23, f 24, f 25, f 26, f 27, f 28, f 29, f 30, f 31, f 32, f 33, f 34, f 35, f 36, f 37, f 38, f 39, f 40, f 41, f 42, f 43, f 44, f 45, f 46, f 47, f 48, f 49, f 50, f 51, f 52, f 53, f 54, f 55, f 56, f 57, f 58, f 59, f 60, f 61, f 62, f 63, f 64, f 65, f 66, f 67, f 68, f 69, f 70, f 71, f 72, f 73, f 74, f 75, f 76, f 77, f 78, f 79, f 80, f 81, f 82, f 83, f 84, f 85, f 86, f 87, f 88, f 89, f 90, f 91, f 92, f 93, f 94, f 95, f 96, f 97, f 98, f 99, f 100, f 101, f 102, f 103, f 104, f 105, f 106, f 107, f 108, f 109, f 110, f 111, f 112, f 113, f 114, f 115, f 116, f 117, f 118, f 119, f 120, f 121, f 122, f 123, f 124, f 125, f 126, f 127, f 128, f 129, f 130, f 131, f 132, f 133, f 134, f 135, f 136, f 137, f 138, f 139, f 140, f 141, f 142, f 143, f 144, f 145, f 146, f 147, f 148, f 149, f 150, f 151, f 152, f 153, f 154, f 155, f 156, f 157, f 158, f 159, f 160, f 161, f 162, f 163, f 164, f 165, f 166, f 167, f 168, f 169, f 170, f 171, f 172, f 173, f 174, f 175, f 176, f 177, f 178, f 179, f 180, f 181, f 182, f 183, f 184], []⟩ := by
  have h : List.range 185 = [0, 1, 2, 3, 4, 5, 6, 7, 8, 9, 10, 11, 12, 13, 14, 15, 16, 17, 18, 19, 20, 21, 22, 23, 24, 25, 26, 27, 28, 29, 30, 31, 32, 33, 34, 35, 36, 37, 38, 39, 40, 41, 42, 43, 44, 45, 46, 47, 48, 49, 50, 51, 52, 53, 54, 55, 56, 57, 58, 59, 60, 61, 62, 63, 64, 65, 66, 67, 68, 69, 70, 71, 72, 73, 74, 75, 76, 77, 78, 79, 80, 81, 82, 83, 84, 85, 86, 87, 88, 89, 90, 91, 92, 93, 94, 95, 96, 97, 98, 99, 100, 101, 102, 103, 104, 105, 106, 107, 108, 109, 110, 111, 112, 113, 114, 115, 116, 117, 118, 119, 120, 121, 122, 123, 124, 125, 126, 127, 128, 129, 130, 131, 132, 133, 134, 135, 136, 137, 138, 139, 140, 141, 142, 143, 144, 145, 146, 147, 148, 149, 150, 151, 152, 153, 154, 155, 156, 157, 158, 159, 160, 161, 162, 163, 164, 165, 166, 167, 168, 169, 170, 171, 172, 173, 174, 175, 176, 177, 178, 179, 180, 181, 182, 183, 184] := by decide +kernel
  unfold st
  rw [h]
  rfl
def repI (xs : List Ac) (v0 v1 v7 v9 v10 v12 : Value) (g13 : Nat) (X : Nat → Nt) (w0 : World) (a : Act) (wr : World) : Prop :=
  ∃ f, a = st 185 f ∧ ∃ (i : Nat) (AW : Option Addr) (cW : Nat) (AC : Option Addr) (cC : Nat) (AT : Option Addr) (cT : Nat), i ≤ xs.length ∧ f 0 = v0 ∧ f 1 = v1 ∧ f 7 = v7 ∧ f 9 = v9 ∧ f 10 = v10 ∧ f 12 = v12 ∧ f 13 = .pointer (some ⟨g13, 0, none⟩) ∧ f 16 = .int .i64 (i : Int) ∧
    Hid (wr.heap[g13]? = some (.cells #[.int .i64 (X i).nodes, .int .i64 (X i).now, .int .i64 (X i).next, .slice AW (X i).way.length cW, .slice AC (X i).cuts.length cC, .slice AT (X i).timers.length cT] 26 (0, 0))) ∧ Hid (NetV wr (.agg #[.int .i64 (X i).nodes, .int .i64 (X i).now, .int .i64 (X i).next, .slice AW (X i).way.length cW, .slice AC (X i).cuts.length cC, .slice AT (X i).timers.length cT]) (X i)) ∧ Hid (Below w0.heap.size w0 wr)
def repMu (n : Nat) (a : Act) (_ : World) : Nat := n - (intOf (a.tmps.getD 16 undef)).toNat
set_option maxHeartbeats 8000000 in
set_option maxRecDepth 100000 in
theorem rep_round (xs : List Ac) (A A6 : Option Addr) (c c6 g13 : Nat) (S : List Sn) (rs : List SnR) (x0 : Nt) (v0 v7 v9 v12 : Value) (w0 wr : World) (f : Nat → Value) (Q0 : Exit → Act → World → Prop) (i : Nat) (AW AC AT : Option Addr) (cW cC cT : Nat) (hlx : xs.length ≤ 200) (hlk : i < xs.length) (hg : w0.heap.size ≤ g13)
    (HR : Hid (Rd w0 A xs)) (HRL : Hid (Rd w0 A6 rs)) (HSS : Hid (Sns w0 rs S)) (HSL : Hid (S.length = xs.length)) (HOX : Hid (∀ k, Ok (playX x0 (xs.take k)))) (HSG : Hid (∀ k d, xs[k]? = some d → S[k]? = some (doSR (playX x0 (xs.take k)) d)))
    (h0 : f 0 = v0) (h1 : f 1 = .slice A xs.length c) (h7 : f 7 = v7) (h9 : f 9 = v9) (h10 : f 10 = .slice A6 xs.length c6) (h12 : f 12 = v12) (h13 : f 13 = .pointer (some ⟨g13, 0, none⟩)) (h16 : f 16 = .int .i64 (i : Int))
    (HG : Hid (wr.heap[g13]? = some (.cells #[.int .i64 (playX x0 (xs.take i)).nodes, .int .i64 (playX x0 (xs.take i)).now, .int .i64 (playX x0 (xs.take i)).next, .slice AW (playX x0 (xs.take i)).way.length cW, .slice AC (playX x0 (xs.take i)).cuts.length cC, .slice AT (playX x0 (xs.take i)).timers.length cT] 26 (0, 0)))) (HVZ : Hid (NetV wr (.agg #[.int .i64 (playX x0 (xs.take i)).nodes, .int .i64 (playX x0 (xs.take i)).now, .int .i64 (playX x0 (xs.take i)).next, .slice AW (playX x0 (xs.take i)).way.length cW, .slice AC (playX x0 (xs.take i)).cuts.length cC, .slice AT (playX x0 (xs.take i)).timers.length cT]) (playX x0 (xs.take i)))) (HB : Hid (Below w0.heap.size w0 wr))
    (hQ0 : ∀ (d : Option Tmp) (v : Value) c a w, Q0 (.panic c) (a.put d v) w → Q0 (.panic c) a w) :
    repBody.wp Try.prog (Exit.then (fun a' w' => repI xs v0 (.slice A xs.length c) v7 v9 (.slice A6 xs.length c6) v12 g13 (fun k => playX x0 (xs.take k)) w0 a' w' ∧ repMu xs.length a' w' < repMu xs.length (st 185 f) wr) Q0) (st 185 f) wr := by
  conv => arg 2; whnf
  have hmu : Hid (repMu xs.length (st 185 f) wr = xs.length - i) := by
    show _ = _
    unfold repMu
    rw [st_getD (by decide), h16]; rfl
  rw [hmu.out]
  rw [str_all, h0, h1, h7, h9, h10, h12, h13, h16]
  clear h0 h1 h7 h9 h10 h12 h13 h16
  obtain ⟨bb, off, d, rfl, hx, c0, c1, c2, c3, c4⟩ := (HR.out.below HB.out).ac i hlk
  have hbt : bb < wr.heap.size := World.block_lt_of_cell? wr _ c0
  obtain ⟨bl, ol, s, ta, tc, rfl, hs, hts, e0, e1, e2, e3, e4, e5, e6, e7, e8, e9, e10, e11, e12⟩ := HRL.out.seen HSS.out i (by rw [HSS.out.1, HSL.out]; exact hlk)
  replace e0 := cell_below HB.out e0
  replace e1 := cell_below HB.out e1
  replace e2 := cell_below HB.out e2
  replace e3 := cell_below HB.out e3
  replace e4 := cell_below HB.out e4
  replace e5 := cell_below HB.out e5
  replace e6 := cell_below HB.out e6
  replace e7 := cell_below HB.out e7
  replace e8 := cell_below HB.out e8
  replace e9 := cell_below HB.out e9
  replace e10 := cell_below HB.out e10
  replace e11 := cell_below HB.out e11
  replace e12 := cell_below HB.out e12
  have hbl : bl < wr.heap.size := World.block_lt_of_cell? wr _ e0
  obtain ⟨z, hz⟩ : ∃ z, z = playX x0 (xs.take i) := ⟨_, rfl⟩
  have hoz := HOX.out i
  have hsd : s = doSR (playX x0 (xs.take i)) d := Option.some.inj (hs.out.symm.trans (HSG.out i d hx.out))
  have hzn : playX x0 (xs.take (i + 1)) = doXR (playX x0 (xs.take i)) d := playX_take hx.out
  rw [← hz] at hoz hsd HG HVZ hzn
  have hstl := doSR_ts z d hoz
  rw [← hsd] at hstl
  have hlz := len_ok hoz
  obtain ⟨z', hz'⟩ : ∃ y, y = doXR z d := ⟨_, rfl⟩
  rw [← hz'] at hzn
  have he : doER z = 0 := by unfold doER; rw [(ok_iff z).2 hoz]; rfl
  obtain ⟨s', hs'⟩ : ∃ y, y = s := ⟨_, rfl⟩
  rw [← hs'] at hsd
  have HDO := Lib.hid fun (v : Value) (w : World) (hV : NetV w v z) => Do_own hz' hsd he.symm v w hlz.1 hlz.2.1 hlz.2.2 hV
  have HZN := Lib.hid hzn
  have HSE : Hid (s' = s) := hs'
  have HOS := hts
  clear hz hoz hsd hzn hlz hz' he hs' hs hx hts
  obtain ⟨⟨k0, k1, k2, k3, k4, k5⟩, f0, f1, f2, f3, f4, f5⟩ := blc6 HG.out
  have hlg := bl_lt HG.out
  have hbs := HB.out.size
  go_upto_region 11 with fail
  refine wp_cut (fun a wx => ∃ f, a = st 185 f ∧ f 0 = v0 ∧ f 1 = .slice (some ⟨bb, off, none⟩) xs.length c ∧ f 7 = v7 ∧ f 9 = v9 ∧ f 10 = .slice (some ⟨bl, ol, none⟩) xs.length c6 ∧ f 12 = v12 ∧ f 13 = .pointer (some ⟨g13, 0, none⟩) ∧ f 16 = .int .i64 (i : Int) ∧
      ∃ (g1 g2 : Nat) (AW' : Option Addr) (cW' : Nat) (AC' : Option Addr) (cC' : Nat) (AT' : Option Addr) (cT' : Nat) (A' : Option Addr) (c' : Nat), f 17 = .pointer (some ⟨g1, 0, none⟩) ∧ f 18 = .pointer (some ⟨g2, 0, none⟩) ∧ f 19 = .int .i64 0 ∧
        Hid (wx.heap[g1]? = some (.cells #[.int .i64 z'.nodes, .int .i64 z'.now, .int .i64 z'.next, .slice AW' z'.way.length cW', .slice AC' z'.cuts.length cC', .slice AT' z'.timers.length cT'] 26 (0, 0))) ∧ Hid (wx.heap[g2]? = some (.cells #[.int .i64 s'.a.k, .int .i64 s'.a.a, .int .i64 s'.a.b, .int .i64 s'.a.n, .string s'.a.data, .int .i64 s'.e, .int .i64 s'.now, .int .i64 s'.l.id, .int .i64 s'.l.fr, .int .i64 s'.l.to, .int .i64 s'.l.rd, .string s'.l.data, .slice A' s'.ts.length c'] 55 (0, 0))) ∧
        Hid (NetO wx wr.heap.size (.agg #[.int .i64 z'.nodes, .int .i64 z'.now, .int .i64 z'.next, .slice AW' z'.way.length cW', .slice AC' z'.cuts.length cC', .slice AT' z'.timers.length cT']) z') ∧ Hid (wr.heap.size ≤ g1) ∧ Hid (Rd wx A' s'.ts) ∧ Hid (Below wr.heap.size wr wx)) ?rest ?first
  case first =>
    intro J K' hJ hK'
    go_region_held3 (fun w' => (∀ (b o : Nat), b < wr.heap.size → w'.cell? ⟨b, o, none⟩ = wr.cell? ⟨b, o, none⟩) ∧ Below wr.heap.size wr w')
      (first | (with_reducible assumption) | (refine keepC ?_; repeat (first | (with_reducible assumption) | exact keepR (by with_reducible assumption) | (with_reducible exact Below.refl _ _) | (with_reducible refine Below.setCell ?_ (by first | exact Nat.le_refl _ | exact Below.size (keepR (by with_reducible assumption)) | exact Nat.le_add_right_of_le (Below.size (keepR (by with_reducible assumption))) | exact Below.size (by with_reducible assumption) | exact Nat.le_add_right_of_le (Below.size (by with_reducible assumption)) | simp) _) | (with_reducible refine below_alloc ?_ _) | (with_reducible refine Below.drew ?_) | exact below_trans (keepR (by with_reducible assumption)) (by with_reducible assumption))))
      ((go_at_call 34; refine (HDO.out _ _ (HVZ.out.below (keepR (by assumption)))).mono ?_; rintro e wd ⟨AWd, cWd, ACd, cCd, ATd, cTd, Ad, cd, rfl, hn, hO, hbd⟩; have hbW : Below wr.heap.size wr wd := below_trans (keepR (by assumption)) hbd; (first | ((with_reducible have hA := bl_below (bl_drew (bl_alloc (bl_new wr (.cells #[.int .i64 0, .int .i64 0, .int .i64 0, .slice none 0 0, .slice none 0 0, .slice none 0 0] 26)) (.cells #[.int .i64 0, .int .i64 0, .int .i64 0, .int .i64 0, .string ⟨#[]⟩, .int .i64 0, .int .i64 0, .int .i64 0, .int .i64 0, .int .i64 0, .int .i64 0, .string ⟨#[]⟩, .slice none 0 0] 55))) hbd); (with_reducible have hB' := bl_below (bl_drew (bl_new2 wr (.cells #[.int .i64 0, .int .i64 0, .int .i64 0, .slice none 0 0, .slice none 0 0, .slice none 0 0] 26) (.cells #[.int .i64 0, .int .i64 0, .int .i64 0, .int .i64 0, .string ⟨#[]⟩, .int .i64 0, .int .i64 0, .int .i64 0, .int .i64 0, .int .i64 0, .int .i64 0, .string ⟨#[]⟩, .slice none 0 0] 55))) hbd); obtain ⟨⟨x0, x1, x2, x3, x4, x5⟩, y0, y1, y2, y3, y4, y5⟩ := blc6 hA; have hlx := bl_lt hA; obtain ⟨⟨p0, p1, p2, p3, p4, p5, p6, p7, p8, p9, p10, p11, p12⟩, r0, r1, r2, r3, r4, r5, r6, r7, r8, r9, r10, r11, r12⟩ := blc13 hB'; have hlp := bl_lt hB') | ((with_reducible have hA := bl_below (bl_drew (bl_alloc (bl_new wr (.cells #[.int .i64 0, .int .i64 0, .int .i64 0, .int .i64 0, .string ⟨#[]⟩, .int .i64 0, .int .i64 0, .int .i64 0, .int .i64 0, .int .i64 0, .int .i64 0, .string ⟨#[]⟩, .slice none 0 0] 55)) (.cells #[.int .i64 0, .int .i64 0, .int .i64 0, .slice none 0 0, .slice none 0 0, .slice none 0 0] 26))) hbd); (with_reducible have hB' := bl_below (bl_drew (bl_new2 wr (.cells #[.int .i64 0, .int .i64 0, .int .i64 0, .int .i64 0, .string ⟨#[]⟩, .int .i64 0, .int .i64 0, .int .i64 0, .int .i64 0, .int .i64 0, .int .i64 0, .string ⟨#[]⟩, .slice none 0 0] 55) (.cells #[.int .i64 0, .int .i64 0, .int .i64 0, .slice none 0 0, .slice none 0 0, .slice none 0 0] 26))) hbd); obtain ⟨⟨p0, p1, p2, p3, p4, p5, p6, p7, p8, p9, p10, p11, p12⟩, r0, r1, r2, r3, r4, r5, r6, r7, r8, r9, r10, r11, r12⟩ := blc13 hA; have hlp := bl_lt hA; obtain ⟨⟨x0, x1, x2, x3, x4, x5⟩, y0, y1, y2, y3, y4, y5⟩ := blc6 hB'; have hlx := bl_lt hB') | ((with_reducible have hA := bl_below (bl_drew (bl_new wr (.cells #[.int .i64 0, .int .i64 0, .int .i64 0, .slice none 0 0, .slice none 0 0, .slice none 0 0] 26))) hbd); obtain ⟨⟨x0, x1, x2, x3, x4, x5⟩, y0, y1, y2, y3, y4, y5⟩ := blc6 hA; have hlx := bl_lt hA) | ((with_reducible have hA := bl_below (bl_drew (bl_new wr (.cells #[.int .i64 0, .int .i64 0, .int .i64 0, .int .i64 0, .string ⟨#[]⟩, .int .i64 0, .int .i64 0, .int .i64 0, .int .i64 0, .int .i64 0, .int .i64 0, .string ⟨#[]⟩, .slice none 0 0] 55))) hbd); obtain ⟨⟨p0, p1, p2, p3, p4, p5, p6, p7, p8, p9, p10, p11, p12⟩, r0, r1, r2, r3, r4, r5, r6, r7, r8, r9, r10, r11, r12⟩ := blc13 hA; have hlp := bl_lt hA) | ((with_reducible have hA := bl_below (bl_alloc (bl_new wr (.cells #[.int .i64 0, .int .i64 0, .int .i64 0, .slice none 0 0, .slice none 0 0, .slice none 0 0] 26)) (.cells #[.int .i64 0, .int .i64 0, .int .i64 0, .int .i64 0, .string ⟨#[]⟩, .int .i64 0, .int .i64 0, .int .i64 0, .int .i64 0, .int .i64 0, .int .i64 0, .string ⟨#[]⟩, .slice none 0 0] 55)) hbd); (with_reducible have hB' := bl_below (bl_new2 wr (.cells #[.int .i64 0, .int .i64 0, .int .i64 0, .slice none 0 0, .slice none 0 0, .slice none 0 0] 26) (.cells #[.int .i64 0, .int .i64 0, .int .i64 0, .int .i64 0, .string ⟨#[]⟩, .int .i64 0, .int .i64 0, .int .i64 0, .int .i64 0, .int .i64 0, .int .i64 0, .string ⟨#[]⟩, .slice none 0 0] 55)) hbd); obtain ⟨⟨x0, x1, x2, x3, x4, x5⟩, y0, y1, y2, y3, y4, y5⟩ := blc6 hA; have hlx := bl_lt hA; obtain ⟨⟨p0, p1, p2, p3, p4, p5, p6, p7, p8, p9, p10, p11, p12⟩, r0, r1, r2, r3, r4, r5, r6, r7, r8, r9, r10, r11, r12⟩ := blc13 hB'; have hlp := bl_lt hB') | ((with_reducible have hA := bl_below (bl_alloc (bl_new wr (.cells #[.int .i64 0, .int .i64 0, .int .i64 0, .int .i64 0, .string ⟨#[]⟩, .int .i64 0, .int .i64 0, .int .i64 0, .int .i64 0, .int .i64 0, .int .i64 0, .string ⟨#[]⟩, .slice none 0 0] 55)) (.cells #[.int .i64 0, .int .i64 0, .int .i64 0, .slice none 0 0, .slice none 0 0, .slice none 0 0] 26)) hbd); (with_reducible have hB' := bl_below (bl_new2 wr (.cells #[.int .i64 0, .int .i64 0, .int .i64 0, .int .i64 0, .string ⟨#[]⟩, .int .i64 0, .int .i64 0, .int .i64 0, .int .i64 0, .int .i64 0, .int .i64 0, .string ⟨#[]⟩, .slice none 0 0] 55) (.cells #[.int .i64 0, .int .i64 0, .int .i64 0, .slice none 0 0, .slice none 0 0, .slice none 0 0] 26)) hbd); obtain ⟨⟨p0, p1, p2, p3, p4, p5, p6, p7, p8, p9, p10, p11, p12⟩, r0, r1, r2, r3, r4, r5, r6, r7, r8, r9, r10, r11, r12⟩ := blc13 hA; have hlp := bl_lt hA; obtain ⟨⟨x0, x1, x2, x3, x4, x5⟩, y0, y1, y2, y3, y4, y5⟩ := blc6 hB'; have hlx := bl_lt hB') | ((with_reducible have hA := bl_below (bl_new wr (.cells #[.int .i64 0, .int .i64 0, .int .i64 0, .slice none 0 0, .slice none 0 0, .slice none 0 0] 26)) hbd); obtain ⟨⟨x0, x1, x2, x3, x4, x5⟩, y0, y1, y2, y3, y4, y5⟩ := blc6 hA; have hlx := bl_lt hA) | ((with_reducible have hA := bl_below (bl_new wr (.cells #[.int .i64 0, .int .i64 0, .int .i64 0, .int .i64 0, .string ⟨#[]⟩, .int .i64 0, .int .i64 0, .int .i64 0, .int .i64 0, .int .i64 0, .int .i64 0, .string ⟨#[]⟩, .slice none 0 0] 55)) hbd); obtain ⟨⟨p0, p1, p2, p3, p4, p5, p6, p7, p8, p9, p10, p11, p12⟩, r0, r1, r2, r3, r4, r5, r6, r7, r8, r9, r10, r11, r12⟩ := blc13 hA; have hlp := bl_lt hA) | skip)))
    all_goals
      have hws : wr.heap.size ≤ wd.heap.size := hbW.size
    · go_wp2
      exact Met.intro (hJ _ _ ⟨_, st_of 185 (by rfl), rfl, rfl, rfl, rfl, rfl, rfl, rfl, rfl, _, _, AWd, cWd, ACd, cCd, ATd, cTd, Ad, cd, rfl, rfl, rfl, bl_alloc (bl_new _ _) _, bl_new2 _ _ _, (hn.below (below_alloc (below_alloc (Below.refl _ _) _) _)).weaken (by simp <;> omega), hws, Own.rd (hO.below (below_alloc (below_alloc (Below.refl _ _) _) _)), below_alloc (below_alloc hbW _) _⟩)
    · go_wp2
      exact Met.intro (hJ _ _ ⟨_, st_of 185 (by rfl), rfl, rfl, rfl, rfl, rfl, rfl, rfl, rfl, _, _, AWd, cWd, ACd, cCd, ATd, cTd, Ad, cd, rfl, rfl, rfl, bl_new2 _ _ _, bl_alloc (bl_new _ _) _, (hn.below (below_alloc (below_alloc (Below.refl _ _) _) _)).weaken (by simp <;> omega), Nat.le_add_right_of_le hws, Own.rd (hO.below (below_alloc (below_alloc (Below.refl _ _) _) _)), below_alloc (below_alloc hbW _) _⟩)
    · go_wp2
      exact Met.intro (hJ _ _ ⟨_, st_of 185 (by rfl), rfl, rfl, rfl, rfl, rfl, rfl, rfl, rfl, _, _, AWd, cWd, ACd, cCd, ATd, cTd, Ad, cd, rfl, rfl, rfl, bl_alloc (bl_all6 hA _ _ _ _ _ _) _, bl_newS (by simp [World.setCell]), ((hn.far6 (by simp) _ _ _ _ _ _).alloc _).weaken (by simp <;> omega), Nat.le_refl _, Own.rd ((own_far6 hO (by simp) _ _ _ _ _ _).alloc _), below_alloc (below_set6 hbW (Nat.le_refl _) _ _ _ _ _ _) _⟩)
    · go_wp2
      exact Met.intro (hJ _ _ ⟨_, st_of 185 (by rfl), rfl, rfl, rfl, rfl, rfl, rfl, rfl, rfl, _, _, AWd, cWd, ACd, cCd, ATd, cTd, Ad, cd, rfl, rfl, rfl, put13_far (bl_all6 hA _ _ _ _ _ _) (by omega), put13_all (bl_far6 hB' (by omega) _ _ _ _ _ _), (put13_net (hn.far6 (by simp <;> omega) _ _ _ _ _ _) (by simp <;> omega)).weaken (by simp <;> omega), Nat.le_refl _, Own.rd (put13_ownF (own_far6 hO (by simp <;> omega) _ _ _ _ _ _) (by simp <;> omega)), put13_below (below_set6 hbW (Nat.le_refl _) _ _ _ _ _ _) (by omega)⟩)
    · go_wp2
      exact Met.intro (hJ _ _ ⟨_, st_of 185 (by rfl), rfl, rfl, rfl, rfl, rfl, rfl, rfl, rfl, _, _, AWd, cWd, ACd, cCd, ATd, cTd, Ad, cd, rfl, rfl, rfl, bl_newS (by simp [World.setCell]), bl_alloc (put13_all hA) _, ((put13_net hn (by simp)).alloc _).weaken (by simp <;> omega), hws, Own.rd ((put13_ownF hO (by simp)).alloc _), below_alloc (put13_below hbW (Nat.le_refl _)) _⟩)
    · go_wp2
      exact Met.intro (hJ _ _ ⟨_, st_of 185 (by rfl), rfl, rfl, rfl, rfl, rfl, rfl, rfl, rfl, _, _, AWd, cWd, ACd, cCd, ATd, cTd, Ad, cd, rfl, rfl, rfl, put13_far (bl_all6 hB' _ _ _ _ _ _) (by omega), put13_all (bl_far6 hA (by omega) _ _ _ _ _ _), (put13_net (hn.far6 (by simp <;> omega) _ _ _ _ _ _) (by simp <;> omega)).weaken (by simp <;> omega), Nat.le_add_right _ _, Own.rd (put13_ownF (own_far6 hO (by simp <;> omega) _ _ _ _ _ _) (by simp <;> omega)), put13_below (below_set6 hbW (Nat.le_add_right _ _) _ _ _ _ _ _) (Nat.le_refl _)⟩)
  case rest =>
    rintro a' w7 ⟨f, rfl, h0, h1, h7, h9, h10, h12, h13, h16, g1, g2, AW', cW', AC', cC', AT', cT', A', c', h17, h18, h19, HG1, HG2, HVN, HGE, HTS, HB7⟩
    rw [str_all, h0, h1, h7, h9, h10, h12, h13, h16, h17, h18, h19]
    clear h0 h1 h7 h9 h10 h12 h13 h16 h17 h18 h19 k0 k1 k2 k3 k4 k5 f0 f1 f2 f3 f4 f5 c0 c1 c2 c3 c4 hbt hlg
    obtain ⟨⟨p0, p1, p2, p3, p4, p5, p6, p7, p8, p9, p10, p11, p12⟩, -⟩ := blc13 HG2.out
    have hlp := bl_lt HG2.out
    replace e0 := cell_below HB7.out e0
    replace e1 := cell_below HB7.out e1
    replace e2 := cell_below HB7.out e2
    replace e3 := cell_below HB7.out e3
    replace e4 := cell_below HB7.out e4
    replace e5 := cell_below HB7.out e5
    replace e6 := cell_below HB7.out e6
    replace e7 := cell_below HB7.out e7
    replace e8 := cell_below HB7.out e8
    replace e9 := cell_below HB7.out e9
    replace e10 := cell_below HB7.out e10
    replace e11 := cell_below HB7.out e11
    replace e12 := cell_below HB7.out e12
    replace hbl : bl < w7.heap.size := World.block_lt_of_cell? w7 _ e0
    go_upto_region 12 with fail
    refine wp_still_tail 8 (by kernel_rfl) (by kernel_rfl) ?_
    simp only [List.take_succ_cons, List.take_zero, List.drop_succ_cons, List.drop_zero]
    repeat still_step
    refine wpStill_nil ?_
    go_wp2_with fail
    have hsame := RSameSeen_any s' s A' ta c' tc w7.drew (Rd.drew HTS.out) (Rd.drew (HOS.out.below (HB.out.trans (HB7.out.mono hbs)))) (by rw [HSE.out]; omega)
    rw [decide_eq_true HSE.out] at hsame
    refine calls_below hsame ?_
    intro w8 hb8
    have hb78 := below_trans (Below.refl _ w7).drew hb8
    have hg1 := bl_below HG1.out hb78
    obtain ⟨⟨n0, n1, n2, n3, n4, n5⟩, -⟩ := blc6 hg1
    have hln := bl_lt hg1
    have hg8 := bl_below (bl_below HG.out HB7.out) hb78
    obtain ⟨⟨k0, k1, k2, k3, k4, k5⟩, f0, f1, f2, f3, f4, f5⟩ := blc6 hg8
    have hlk8 := bl_lt hg8
    have HG8 := Lib.hid hg8
    have HV8 := Lib.hid (HVN.out.below hb78)
    have HB8 := Lib.hid (HB.out.trans ((below_trans HB7.out hb78).mono hbs))
    have hne : ¬ g13 = g1 := by have := HGE.out; have := bl_lt HG.out; omega
    have hlt13 := bl_lt HG.out
    clear p0 p1 p2 p3 p4 p5 p6 p7 p8 p9 p10 p11 p12 e0 e1 e2 e3 e4 e5 e6 e7 e8 e9 e10 e11 e12 hsame hb8 hb78 hg1 hg8 hlp hbl
    go_wp2
    refine ⟨⟨_, st_of 185 (by rfl), i + 1, AW', cW', AC', cC', AT', cT', by omega, rfl, rfl, rfl, rfl, rfl, rfl, rfl, by show _ = Value.int .i64 _; go_num, ?_, ?_, ?_⟩, ?_⟩
    · show _ = some (Obj.cells #[.int .i64 (playX x0 (xs.take (i + 1))).nodes, .int .i64 (playX x0 (xs.take (i + 1))).now, .int .i64 (playX x0 (xs.take (i + 1))).next, .slice AW' (playX x0 (xs.take (i + 1))).way.length cW', .slice AC' (playX x0 (xs.take (i + 1))).cuts.length cC', .slice AT' (playX x0 (xs.take (i + 1))).timers.length cT'] 26 (0, 0))
      rw [HZN.out]; exact bl_all6 HG8.out _ _ _ _ _ _
    · show NetV _ (.agg #[.int .i64 (playX x0 (xs.take (i + 1))).nodes, .int .i64 (playX x0 (xs.take (i + 1))).now, .int .i64 (playX x0 (xs.take (i + 1))).next, .slice AW' (playX x0 (xs.take (i + 1))).way.length cW', .slice AC' (playX x0 (xs.take (i + 1))).cuts.length cC', .slice AT' (playX x0 (xs.take (i + 1))).timers.length cT']) (playX x0 (xs.take (i + 1)))
      rw [HZN.out]; exact (HV8.out.far6 hlt13 _ _ _ _ _ _).netV
    · exact below_set6 HB8.out hg _ _ _ _ _ _
    · show xs.length - (intOf (.int .i64 ((i : Int) + 1))).toNat < xs.length - i
      simp [intOf]; omega
end Go.Proofs.Ythlbmcfliejdiaa
end

section
set_option linter.unusedVariables false
set_option linter.unusedSimpArgs false
namespace Go.Proofs.Ythlbmcfliejdiaa
open Go.RowKit

theorem Rd.take {α : Type} [Enc α] {w : World} {A : Option Addr} {xs : List α} (h : Rd w A xs) (m : Nat) : Rd w A (xs.take m) := by
  intro i hi
  have hi2 : i < xs.length := by rw [List.length_take] at hi; omega
  obtain ⟨b, off, e, hc⟩ := h i hi2
  refine ⟨b, off, e, fun k v hk => hc k v ?_⟩
  rw [List.getElem_take] at hk
  exact hk
theorem Sns.take {w : World} {rs : List SnR} {xs : List Sn} (h : Sns w rs xs) (m : Nat) : Sns w (rs.take m) (xs.take m) := by
  refine ⟨by rw [List.length_take, List.length_take, h.1], fun i r s hr hs => ?_⟩
  rw [List.getElem?_take] at hr hs
  split at hr
  · rw [if_pos ‹_›] at hs; exact h.2 i r s hr hs
  · cases hr
theorem Rd.dropAt {α : Type} [Enc α] {w : World} {b off : Nat} {xs : List α} (h : Rd w (some ⟨b, off, none⟩) xs) (m : Nat) : Rd w (some ⟨b, off + m * Enc.sz α, none⟩) (xs.drop m) := by
  intro i hi
  have hi2 : m + i < xs.length := by rw [List.length_drop] at hi; omega
  obtain ⟨b', off', e, hc⟩ := h (m + i) hi2
  cases e
  refine ⟨b, off + m * Enc.sz α, rfl, fun k v hk => ?_⟩
  rw [List.getElem_drop] at hk
  have := hc k v hk
  rw [Nat.add_mul] at this
  rw [show off + m * Enc.sz α + i * Enc.sz α + k = off + (m * Enc.sz α + i * Enc.sz α) + k by omega]
  exact this
theorem Sns.drop {w : World} {rs : List SnR} {xs : List Sn} (h : Sns w rs xs) (m : Nat) : Sns w (rs.drop m) (xs.drop m) := by
  refine ⟨by rw [List.length_drop, List.length_drop, h.1], fun i r s hr hs => ?_⟩
  rw [List.getElem?_drop] at hr hs
  exact h.2 _ r s hr hs
theorem Sns.append {w : World} {rs qs : List SnR} {xs ys : List Sn} (h : Sns w rs xs) (k : Sns w qs ys) : Sns w (rs ++ qs) (xs ++ ys) := by
  refine ⟨by simp [h.1, k.1], fun i r s hr hs => ?_⟩
  rcases Nat.lt_or_ge i rs.length with hi | hi
  · rw [List.getElem?_append_left hi] at hr
    rw [List.getElem?_append_left (by rw [← h.1]; exact hi)] at hs
    exact h.2 i r s hr hs
  · rw [List.getElem?_append_right hi] at hr
    rw [List.getElem?_append_right (by rw [← h.1]; exact hi), ← h.1] at hs
    exact k.2 _ r s hr hs
theorem Sns.one {w : World} {r : SnR} {s : Sn} (h : IsSn w r s) : Sns w [r] [s] := by
  refine ⟨rfl, fun i r' s' hr hs => ?_⟩
  match i, hr, hs with
  | 0, hr, hs => cases hr; cases hs; exact h
  | i + 1, hr, _ => simp at hr
/-- A new row of no elements is one's own. -/
theorem Own.fresh {α : Type} [Enc α] (w : World) (B : Nat) (e : TypeId) (H : Nat) (hH : w.heap.size = H) (hB : B ≤ H) : Own (w.alloc (.cells #[] e)) B e (.slice (some ⟨H, 0, none⟩) 0 0) ([] : List α) := by
  subst hH
  exact ⟨by simp [flat], .inr ⟨w.heap.size, 0, #[], rfl, hB, bl_new w _, Nat.le_refl _, by simp [maxLen], by simp, by simp [flat]⟩⟩
theorem Rd.blk {α : Type} [Enc α] {w : World} {g : Nat} {e : TypeId} {fr : Nat × Nat} {cs : Array Value} (x : α) (hg : w.heap[g]? = some (.cells cs e fr)) (h : cs.toList = Enc.enc x) : Rd w (some ⟨g, 0, none⟩) [x] := by
  refine Rd.of_cells fun j u hj => ?_
  rw [flat_sing, ← h] at hj
  rw [bl_cell hg, Nat.zero_add]
  simpa using hj
/-- append at a step of a region that draws. -/
theorem step_app {α : Type} [Enc α] {P : Program} {ops : Array Oper} {o : Oper} {a : Act} {K : Act → World → Prop} {Q : Exit → Act → World → Prop} {E : Prop} (W : World) (base : Nat) (hgd : o.guard = none) (s x : Operand) (t e : TypeId) (z : Value) (bytes : Nat)
    (ho : o.op = .call { callee := .builtin .append, args := #[s, x], argTypes := #[t, t] })
    (ht : P.underlying t = some (.slice e)) (hinfo : (P.info? e).map (fun i => (i.zero, i.size, i.bytes)) = some (some z, Enc.sz α, bytes)) (hz : z.cells.size = Enc.sz α) (hs0 : 0 < Enc.sz α) (hb0 : 0 < bytes)
    (v : Value) (xs ys : List α) (A : Option Addr) (c : Nat) (hs : a.eval s = v) (hx : a.eval x = .slice A ys.length c) (hbase : base ≤ W.heap.size) (HO : Own W base e v xs) (HR : Rd W A ys) (hl : (xs.length + ys.length) * bytes ≤ 140737488355328)
    (h : ∀ v1 w1, Own w1 base e v1 (xs ++ ys) → Below base W w1 → W.grownBy w1 v.ownBlock → K (a.put o.dst v1) w1) :
    if Region.wanted o (yielded ops a.tmps) = true then Oper.wp P o a W K Q else E := by
  obtain ⟨v1, w1, hr, h1, h2, h3⟩ := run_app (P := P) W base t o.type e z bytes ht hinfo hz hs0 hb0 v xs ys A c HO HR hbase hl
  have hw : Region.wanted o (yielded ops a.tmps) = true := by simp [Region.wanted, hgd]
  rw [if_pos hw]
  unfold Oper.wp execOp
  simp only [ho, resolve, invoke, builtin, Sem.run_bind, Sem.run_pure, Result.andThen_ok, List.map_toArray, List.map_cons, List.map_nil, hs, hx, hr]
  exact h v1 w1 h1 ((Below.refl base W).grown h2 hbase (fun k hk => (HO.lt k hk).1)) h2
/-- A region of a code, by its number. -/
def regR (n : Nat) : Code → Option Code
  | .region k ops d => if k = n then some (.region k ops d) else none
  | .loop c => regR n c
  | .seq a b => match regR n a with
    | some c => some c
    | none => regR n b
  | .block _ c => regR n c
  | .scope c => regR n c
  | .cond _ a b => match regR n a with
    | some c => some c
    | none => regR n b
  | _ => none
noncomputable def repPut : Code := ((Try.f9.body.bind (regR 22)).getD .skip)
set_option maxHeartbeats 4000000 in
set_option maxRecDepth 100000 in
theorem rep_put (f : Nat → Value) (W : World) (bl ol g7 m c6 L : Nat) (rs : List SnR) (r : SnR) (K : Act → World → Prop) (Q : Exit → Act → World → Prop)
    (hQ0 : ∀ (d : Option Tmp) (v : Value) c a w, Q (.panic c) (a.put d v) w → Q (.panic c) a w)
    (h7 : f 7 = .pointer (some ⟨g7, 0, none⟩)) (h10 : f 10 = .slice (some ⟨bl, ol, none⟩) L c6) (h12 : f 12 = .int .i64 (m : Int))
    (HG : Hid (W.heap[g7]? = some (.cells #[.int .i64 r.a.k, .int .i64 r.a.a, .int .i64 r.a.b, .int .i64 r.a.n, .string r.a.data, .int .i64 r.e, .int .i64 r.now, .int .i64 r.l.id, .int .i64 r.l.fr, .int .i64 r.l.to, .int .i64 r.l.rd, .string r.l.data, .slice r.ta r.tn r.tc] 55 (0, 0)))) (HR : Hid (Rd W (some ⟨bl, ol, none⟩) rs)) (hL : rs.length = L) (hm : m ≤ L) (hc : L ≤ c6) (hL2 : L ≤ 200)
    (hK : ∀ a w', (∃ f' u, a = st 185 f' ∧ f' 0 = f 0 ∧ f' 10 = .slice (some ⟨bl, ol, none⟩) L c6 ∧ f' 12 = .int .i64 (m : Int) ∧ f' 22 = f 22 ∧ f' 23 = u ∧ Hid (Own w' W.heap.size 55 u (rs.take m ++ [r])) ∧ Hid (Below W.heap.size W w')) → K a w') :
    repPut.wp Try.prog (Exit.then K Q) (st 185 f) W := by
  conv => arg 2; whnf
  have hml : (rs.take m).length = m := by rw [List.length_take]; omega
  have HRT : Hid (∀ w', Below W.heap.size W w' → Rd w' (some ⟨bl, ol, none⟩) (rs.take m)) := fun w' hb => (HR.out.below hb).take m
  have HL : Hid ((0 + m) * 136 ≤ 140737488355328) := by show _ ≤ _; omega
  have q1 : (0 : Int) ≤ (m : Int) := by omega
  have q2 : (m : Int) ≤ (c6 : Int) := by omega
  have HL1 : Hid ((m + 1) * 136 ≤ 140737488355328) := by show _ ≤ _; omega
  have HK := Lib.hid hK
  have HML := Lib.hid hml
  obtain ⟨⟨p0, p1, p2, p3, p4, p5, p6, p7, p8, p9, p10, p11, p12⟩, -⟩ := blc13 HG.out
  have hlp := bl_lt HG.out
  rw [str_all, h7, h10, h12]
  clear hK hml hL hm hc hL2 h7 h10 h12
  go_region_held3 (fun w' => (∀ (b o : Nat), b < W.heap.size → w'.cell? ⟨b, o, none⟩ = W.cell? ⟨b, o, none⟩) ∧ Below W.heap.size W w')
    (first | (with_reducible assumption) | (refine keepC ?_; repeat (first | (with_reducible assumption) | exact keepR (by with_reducible assumption) | (with_reducible exact Below.refl _ _) | (with_reducible refine below_alloc ?_ _) | (with_reducible refine Below.drew ?_))))
    ((first
      | ((refine step_app (α := SnR) _ W.heap.size rfl (.tmp 145) (.tmp 148) 48 55 _ 136 (by rfl) Try.underlying48 infoS rfl (by decide) (by decide) (.slice (some ⟨W.heap.size, 0, none⟩) 0 0) [] (rs.take m) (some ⟨bl, ol, none⟩) c6 (by rfl) (show _ = _ from congrArg (fun n => Value.slice (some ⟨bl, ol, none⟩) n c6) HML.out.symm) (Below.size (keepR (by assumption))) (Own.fresh W _ _ _ rfl (Nat.le_refl _)) (HRT.out _ (keepR (by assumption))) (by rw [HML.out]; exact HL.out) ?_); (intro v1 w1 ho1 hb1 hg1); (have hW1 : Below W.heap.size W w1 := Below.trans (keepR (by assumption)) hb1))
      | ((refine step_app (α := SnR) _ W.heap.size rfl (.tmp 145) (.tmp 148) 48 55 _ 136 (by rfl) Try.underlying48 infoS rfl (by decide) (by decide) (.slice (some ⟨W.heap.size, 0, none⟩) 0 0) [] (rs.take m) (some ⟨bl, ol, none⟩) c6 (by rfl) (show _ = _ from congrArg (fun n => Value.slice (some ⟨bl, ol, none⟩) n c6) HML.out.symm) (Below.size (keepR (by assumption))) ((Own.fresh W _ _ _ rfl (Nat.le_refl _)).alloc _) (HRT.out _ (keepR (by assumption))) (by rw [HML.out]; exact HL.out) ?_); (intro v1 w1 ho1 hb1 hg1); (have hW1 : Below W.heap.size W w1 := Below.trans (keepR (by assumption)) hb1); (have hR6 : Rd w1 (some ⟨W.heap.size + 1, 0, none⟩) [r] := Rd.blk r (bl_grown (o := .cells #[.int .i64 r.a.k, .int .i64 r.a.a, .int .i64 r.a.b, .int .i64 r.a.n, .string r.a.data, .int .i64 r.e, .int .i64 r.now, .int .i64 r.l.id, .int .i64 r.l.fr, .int .i64 r.l.to, .int .i64 r.l.rd, .string r.l.data, .slice r.ta r.tn r.tc] 55) (bl_drew (bl_new2 W (.cells #[] 55) _)) hg1 (by simp [Value.ownBlock])) rfl))
      | ((refine step_app (α := SnR) _ W.heap.size rfl (.tmp 145) (.tmp 148) 48 55 _ 136 (by rfl) Try.underlying48 infoS rfl (by decide) (by decide) (.slice (some ⟨W.heap.size + 1, 0, none⟩) 0 0) [] (rs.take m) (some ⟨bl, ol, none⟩) c6 (by rfl) (show _ = _ from congrArg (fun n => Value.slice (some ⟨bl, ol, none⟩) n c6) HML.out.symm) (Below.size (keepR (by assumption))) (Own.fresh (W.alloc (.cells #[.int .i64 r.a.k, .int .i64 r.a.a, .int .i64 r.a.b, .int .i64 r.a.n, .string r.a.data, .int .i64 r.e, .int .i64 r.now, .int .i64 r.l.id, .int .i64 r.l.fr, .int .i64 r.l.to, .int .i64 r.l.rd, .string r.l.data, .slice r.ta r.tn r.tc] 55)) _ _ _ (by simp) (Nat.le_succ _)) (HRT.out _ (keepR (by assumption))) (by rw [HML.out]; exact HL.out) ?_); (intro v1 w1 ho1 hb1 hg1); (have hW1 : Below W.heap.size W w1 := Below.trans (keepR (by assumption)) hb1); (have hR6 : Rd w1 (some ⟨W.heap.size, 0, none⟩) [r] := Rd.blk r (bl_grown (o := .cells #[.int .i64 r.a.k, .int .i64 r.a.a, .int .i64 r.a.b, .int .i64 r.a.n, .string r.a.data, .int .i64 r.e, .int .i64 r.now, .int .i64 r.l.id, .int .i64 r.l.fr, .int .i64 r.l.to, .int .i64 r.l.rd, .string r.l.data, .slice r.ta r.tn r.tc] 55) (bl_drew (bl_alloc (bl_new W _) (.cells #[] 55))) hg1 (by simp [Value.ownBlock])) rfl))
      | ((refine step_app (α := SnR) _ W.heap.size rfl (.tmp 149) (.tmp 151) 48 55 _ 136 (by rfl) Try.underlying48 infoS rfl (by decide) (by decide) v1 (rs.take m) [r] (some ⟨w1.heap.size, 0, none⟩) 1 (by rfl) (by rfl) (Below.size (keepR (by assumption))) (ho1.alloc _) (Rd.new w1 55 r #[.int .i64 r.a.k, .int .i64 r.a.a, .int .i64 r.a.b, .int .i64 r.a.n, .string r.a.data, .int .i64 r.e, .int .i64 r.now, .int .i64 r.l.id, .int .i64 r.l.fr, .int .i64 r.l.to, .int .i64 r.l.rd, .string r.l.data, .slice r.ta r.tn r.tc] rfl) (by rw [HML.out]; exact HL1.out) ?_); (intro v2 w2 ho2 hb2 hg2); (have hW2 : Below W.heap.size W w2 := Below.trans (keepR (by assumption)) hb2))
      | ((refine step_app (α := SnR) _ W.heap.size rfl (.tmp 149) (.tmp 151) 48 55 _ 136 (by rfl) Try.underlying48 infoS rfl (by decide) (by decide) v1 (rs.take m) [r] (some ⟨W.heap.size + 1, 0, none⟩) 1 (by rfl) (by rfl) (Below.size (keepR (by assumption))) ho1 hR6 (by rw [HML.out]; exact HL1.out) ?_); (intro v2 w2 ho2 hb2 hg2); (have hW2 : Below W.heap.size W w2 := Below.trans (keepR (by assumption)) hb2))
      | ((refine step_app (α := SnR) _ W.heap.size rfl (.tmp 149) (.tmp 151) 48 55 _ 136 (by rfl) Try.underlying48 infoS rfl (by decide) (by decide) v1 (rs.take m) [r] (some ⟨W.heap.size, 0, none⟩) 1 (by rfl) (by rfl) (Below.size (keepR (by assumption))) ho1 hR6 (by rw [HML.out]; exact HL1.out) ?_); (intro v2 w2 ho2 hb2 hg2); (have hW2 : Below W.heap.size W w2 := Below.trans (keepR (by assumption)) hb2))
      | fail "no arm"))
  all_goals exact HK.out _ _ ⟨_, _, st_of 185 (by rfl), rfl, rfl, rfl, rfl, rfl, ho2, hW2⟩
end Go.Proofs.Ythlbmcfliejdiaa
end

section
set_option linter.unusedVariables false
set_option linter.unusedSimpArgs false
namespace Go.Proofs.Ythlbmcfliejdiaa
open Go.RowKit
attribute [local go_sem high] eqATm eqALt eqAAc eqALk

set_option maxHeartbeats 2000000 in
set_option maxRecDepth 100000 in
theorem RSameTimers_any2 (A1 A2 : Option Addr) (c1 c2 : Nat) (xs ys : List Tm) (w : World) (h1 : Rd w A1 xs) (h2 : Rd w A2 ys) (hl : ys.length ≤ 10000000) :
    Calls Try.prog 33 #[.slice A1 xs.length c1, .slice A2 ys.length c2] w fun e w' => e = .returned (.bool (decide (xs = ys))) ∧ Below w.heap.size w w' := by
  by_cases hlen : xs.length = ys.length
  · exact RSameTimers_any A1 A2 c1 c2 xs ys w h1 h2 (by omega)
  · have q1 : (xs.length == ys.length) = false := by simpa using hlen
    have q2 : (xs.length != ys.length) = true := by simpa using hlen
    have q3 : ((xs.length : Int) == (ys.length : Int)) = false := by rw [beq_eq_false_iff_ne]; omega
    have q4 : ((xs.length : Int) != (ys.length : Int)) = true := by rw [bne_iff_ne]; omega
    have hne : Hid (xs ≠ ys) := fun h => hlen (by rw [h])
    clear hlen
    go_enter Try.func33, Try.ntmps33
    go_wp2
    go_ret
    exact ⟨ret_bool (decide_eq_false hne.out).symm, Below.refl _ _⟩
set_option maxHeartbeats 2000000 in
set_option maxRecDepth 100000 in
theorem RSameSeen_any2 (s1 s2 : Sn) (t1 t2 : Option Addr) (c1 c2 : Nat) (w : World) (h1 : Rd w t1 s1.ts) (h2 : Rd w t2 s2.ts) (hl : s2.ts.length ≤ 10000000) :
    Calls Try.prog 38 #[.agg #[.int .i64 s1.a.k, .int .i64 s1.a.a, .int .i64 s1.a.b, .int .i64 s1.a.n, .string s1.a.data, .int .i64 s1.e, .int .i64 s1.now, .int .i64 s1.l.id, .int .i64 s1.l.fr, .int .i64 s1.l.to, .int .i64 s1.l.rd, .string s1.l.data, .slice t1 s1.ts.length c1], .agg #[.int .i64 s2.a.k, .int .i64 s2.a.a, .int .i64 s2.a.b, .int .i64 s2.a.n, .string s2.a.data, .int .i64 s2.e, .int .i64 s2.now, .int .i64 s2.l.id, .int .i64 s2.l.fr, .int .i64 s2.l.to, .int .i64 s2.l.rd, .string s2.l.data, .slice t2 s2.ts.length c2]] w fun e w' => e = .returned (.bool (decide (s1 = s2))) ∧ Below w.heap.size w w' := by
  obtain ⟨a1, e1, n1, l1, r1⟩ := s1
  obtain ⟨a2, e2, n2, l2, r2⟩ := s2
  simp only at h1 h2 hl ⊢
  have H1 := Lib.hid h1
  have H2 := Lib.hid h2
  clear h1 h2
  by_cases ha : a1 = a2
  rotate_left 1
  · have hne : Hid (decide ((⟨a1, e1, n1, l1, r1⟩ : Sn) = ⟨a2, e2, n2, l2, r2⟩) = false) := decide_eq_false (by simp [ha])
    have hq := ac_ne ha
    have hq1 := (ac_eq a1 a2).trans (decide_eq_false ha)
    clear ha
    go_enter Try.func38, Try.ntmps38
    go_wp2
    go_ret
    exact ⟨ret_bool hne.out.symm, below_alloc (below_alloc (Below.refl _ _) _) _⟩
  subst ha
  by_cases he : e1 = e2
  rotate_left 1
  · have hne : Hid (decide ((⟨a1, e1, n1, l1, r1⟩ : Sn) = ⟨a1, e2, n2, l2, r2⟩) = false) := decide_eq_false (by simp [he])
    have hq : (e1 == e2) = false := beq_eq_false_iff_ne.2 he
    clear he
    go_enter Try.func38, Try.ntmps38
    go_wp2
    go_ret
    exact ⟨ret_bool hne.out.symm, below_alloc (below_alloc (Below.refl _ _) _) _⟩
  subst he
  by_cases hn : n1 = n2
  rotate_left 1
  · have hne : Hid (decide ((⟨a1, e1, n1, l1, r1⟩ : Sn) = ⟨a1, e1, n2, l2, r2⟩) = false) := decide_eq_false (by simp [hn])
    have hq : (n1 == n2) = false := beq_eq_false_iff_ne.2 hn
    clear hn
    go_enter Try.func38, Try.ntmps38
    go_wp2
    go_ret
    exact ⟨ret_bool hne.out.symm, below_alloc (below_alloc (Below.refl _ _) _) _⟩
  subst hn
  by_cases hlt : l1 = l2
  rotate_left 1
  · have hne : Hid (decide ((⟨a1, e1, n1, l1, r1⟩ : Sn) = ⟨a1, e1, n1, l2, r2⟩) = false) := decide_eq_false (by simp [hlt])
    have hq := lt_ne hlt
    have hq1 := (lt_eq l1 l2).trans (decide_eq_false hlt)
    clear hlt
    go_enter Try.func38, Try.ntmps38
    go_wp2
    go_ret
    exact ⟨ret_bool hne.out.symm, below_alloc (below_alloc (Below.refl _ _) _) _⟩
  subst hlt
  have heq : Hid (decide ((⟨a1, e1, n1, l1, r1⟩ : Sn) = ⟨a1, e1, n1, l1, r2⟩) = decide (r1 = r2)) := by show _ = _; simp
  go_enter Try.func38, Try.ntmps38
  go_wp2_with fail
  have hb0 : Below w.heap.size w ((w.alloc (.cells #[.int .i64 a1.k, .int .i64 a1.a, .int .i64 a1.b, .int .i64 a1.n, .string a1.data, .int .i64 e1, .int .i64 n1, .int .i64 l1.id, .int .i64 l1.fr, .int .i64 l1.to, .int .i64 l1.rd, .string l1.data, .slice t1 r1.length c1] 55)).alloc (.cells #[.int .i64 a1.k, .int .i64 a1.a, .int .i64 a1.b, .int .i64 a1.n, .string a1.data, .int .i64 e1, .int .i64 n1, .int .i64 l1.id, .int .i64 l1.fr, .int .i64 l1.to, .int .i64 l1.rd, .string l1.data, .slice t2 r2.length c2] 55)) := below_alloc (below_alloc (Below.refl _ _) _) _
  refine calls_below (RSameTimers_any2 t1 t2 c1 c2 r1 r2 _ (H1.out.below hb0) (H2.out.below hb0) hl) ?_
  intro w3 hb3
  have hb := below_trans hb0 hb3
  clear hb0
  obtain ⟨b, hbb⟩ : ∃ b, b = decide (r1 = r2) := ⟨_, rfl⟩
  rw [← hbb]
  have HBB := Lib.hid hbb
  clear hbb
  go_wp2
  go_ret
  exact ⟨ret_bool (HBB.out.trans heq.out.symm), hb⟩
theorem SnsO.farB {w : World} {B : Nat} {rs : List SnR} {xs : List Sn} (h : SnsO w B rs xs) {p : Addr} (hp : p.block < B) (u : Value) : SnsO (w.setCell p u) B rs xs :=
  ⟨h.1, fun i r s hr hs => by obtain ⟨h1, h2, h3, h4, h5, h6⟩ := h.2 i r s hr hs; exact ⟨h1, h2, h3, h4, h5, h6.far hp u⟩⟩
theorem bl_first5 {w : World} {g : Nat} {t : TypeId} {fr : Nat × Nat} {c0 c1 c2 c3 c4 c5 c6 c7 c8 c9 c10 c11 c12 : Value} (h : w.heap[g]? = some (.cells #[c0, c1, c2, c3, c4, c5, c6, c7, c8, c9, c10, c11, c12] t fr)) (a0 a1 a2 a3 a4 : Value) :
    (((((w.setCell ⟨g, 0, none⟩ a0).setCell ⟨g, 1, none⟩ a1).setCell ⟨g, 2, none⟩ a2).setCell ⟨g, 3, none⟩ a3).setCell ⟨g, 4, none⟩ a4).heap[g]? = some (.cells #[a0, a1, a2, a3, a4, c5, c6, c7, c8, c9, c10, c11, c12] t fr) := by simpa using bl_set (bl_set (bl_set (bl_set (bl_set h 0 a0) 1 a1) 2 a2) 3 a3) 4 a4
set_option maxHeartbeats 8000000 in
set_option maxRecDepth 100000 in
theorem NetRepeats_any (n : Int) (xs : List Ac) (A : Option Addr) (c : Nat) (aN : Int) (s : Sn) (ta : Option Addr) (tc : Nat) (w : World) (hR : Rd w A xs) (hl : xs.length ≤ 9223372036854775807) (hcap : xs.length ≤ c) (ha0 : 0 ≤ aN) (ha1 : aN ≤ 65535) (hRt : Rd w ta s.ts) :
    Calls Try.prog 9 #[.int .i64 n, .slice A xs.length c, .int .u16 aN, .agg #[.int .i64 s.a.k, .int .i64 s.a.a, .int .i64 s.a.b, .int .i64 s.a.n, .string s.a.data, .int .i64 s.e, .int .i64 s.now, .int .i64 s.l.id, .int .i64 s.l.fr, .int .i64 s.l.to, .int .i64 s.l.rd, .string s.l.data, .slice ta s.ts.length tc]] w fun e w' => e = .returned (.bool true) ∧ Below w.heap.size w w' := by
  have HR := Lib.hid hR
  have HRT := Lib.hid hRt
  clear hR hRt
  have hfw := fun (w : World) (hR : Rd w A xs) => few_any A c xs 200 w hR hl
  cases hf : fewB xs 200
  · rw [hf] at hfw
    have HFW := Lib.hid hfw
    clear hf hfw
    go_enter Try.func9, Try.ntmps9
    go_wp2_with (first
      | (go_at_call 21; refine calls_below (HFW.out _ (HR.out.below (below_alloc (Below.refl _ _) _))) ?_; intro w1 hb1)
      | (go_at_call 13; refine calls_below (sane_any _) ?_; intro w2 hb2))
    go_ret
    exact ⟨rfl, below_trans (below_alloc (Below.refl _ _) _) (below_trans hb1 hb2)⟩
  have hlx : xs.length ≤ 200 := by unfold fewB at hf; simp only [Bool.and_eq_true, decide_eq_true_eq] at hf; omega
  rw [hf] at hfw
  have HFW := Lib.hid hfw
  clear hf hfw hl
  by_cases hn : n < 1 ∨ 16 < n
  · have hn' : (decide (n < 1) = true) ∨ (decide (n < 1) = false ∧ decide (16 < n) = true) := by
      by_cases h : n < 1
      · exact .inl (decide_eq_true h)
      · exact .inr ⟨decide_eq_false h, decide_eq_true (by omega)⟩
    clear hn
    go_enter Try.func9, Try.ntmps9
    go_wp2_with fail
    refine calls_below (HFW.out _ (HR.out.below (below_alloc (Below.refl _ _) _))) ?_
    intro w1 hb1
    rcases hn' with d1 | ⟨d1, d2⟩
    all_goals
      go_wp2_with fail
      refine calls_below (sane_any _) ?_
      intro w2 hb2
      go_wp2
      go_ret
      exact ⟨rfl, below_trans (below_alloc (Below.refl _ _) _) (below_trans hb1 hb2)⟩
  have h0 : 1 ≤ n := by omega
  have h1 : n ≤ 16 := by omega
  have d1 : decide (n < 1) = false := decide_eq_false (by omega)
  have d2 : decide (16 < n) = false := decide_eq_false (by omega)
  obtain ⟨x0, hx0⟩ : ∃ x, x = newX n := ⟨_, rfl⟩
  obtain ⟨S, hS⟩ : ∃ S, S = playS x0 xs := ⟨_, rfl⟩
  have hok0 : Ok x0 := by rw [hx0]; exact newX_ok h0 h1
  obtain ⟨a, rfl⟩ := Int.eq_ofNat_of_zero_le ha0
  obtain ⟨m, hm⟩ : ∃ m, m = a % (xs.length + 1) := ⟨_, rfl⟩
  have hml : m ≤ xs.length := by have := Nat.mod_lt a (show 0 < xs.length + 1 by omega); omega
  have HMOD : Hid (Int.tmod (a : Int) ((xs.length : Int) + 1) = (m : Int)) := by
    show _ = _
    rw [hm, Int.tmod_eq_emod_of_nonneg (by omega)]
    rfl
  have HP : Hid (∀ w, Rd w A xs → Calls Try.prog 22 #[.int .i64 n, .slice A xs.length c] w fun e w' => ∃ v A6 c6 rs, e = .returned (.tuple #[v, .slice A6 xs.length c6, .int .i64 0]) ∧ NetO w' w.heap.size v (playX x0 xs) ∧ Own w' w.heap.size 55 (.slice A6 xs.length c6) rs ∧ SnsO w' w.heap.size rs S ∧ xs.length ≤ c6 ∧ Below w.heap.size w w') := fun w hR => by
    refine (Play_good n xs A c w h0 h1 hR (by omega)).mono fun e w' h => ?_
    obtain ⟨v, u, rs, rfl, hn, ho, hs, hb⟩ := h
    obtain ⟨A6, c6, rfl, hcc, hR6⟩ := ho.slice
    rw [← hx0] at hn hs
    rw [← hS] at hs
    have hle : rs.length = xs.length := by rw [hs.1, hS, playS_length]
    rw [hle] at hcc ho
    exact ⟨v, A6, c6, rs, by rw [hle], hn, ho, hs, hcc, hb⟩
  have HP2 : Hid (∀ w, Rd w A xs → Calls Try.prog 22 #[.int .i64 n, .slice A m c] w fun e w' => ∃ v A7 c7 rs, e = .returned (.tuple #[v, .slice A7 m c7, .int .i64 0]) ∧ NetO w' w.heap.size v (playX x0 (xs.take m)) ∧ Rd w' A7 rs ∧ Sns w' rs (S.take m) ∧ Below w.heap.size w w') := fun w hR => by
    have hml2 : (xs.take m).length = m := by rw [List.length_take]; omega
    have h := Play_good n (xs.take m) A c w h0 h1 (hR.take m) (by omega)
    rw [hml2] at h
    refine h.mono fun e w' h => ?_
    obtain ⟨v, u, rs, rfl, hn, ho, hs, hb⟩ := h
    obtain ⟨A7, c7, rfl, -, hR7⟩ := ho.slice
    rw [← hx0] at hn hs
    rw [playS_take, ← hS] at hs
    have hle : rs.length = m := by rw [hs.1, List.length_take, hS, playS_length]; omega
    exact ⟨v, A7, c7, rs, by rw [hle], hn, hR7, hs.is, hb⟩
  have HSL : Hid (S.length = xs.length) := by show _ = _; rw [hS, playS_length]
  have HOX : Hid (∀ k, Ok (playX x0 (xs.take k))) := fun k => play_keeps _ hok0
  have HSG : Hid (∀ k d, xs[k]? = some d → S[k]? = some (doSR (playX x0 (xs.take k)) d)) := fun k d h => by rw [hS]; exact playS_at x0 xs k d h
  have HTL : Hid (∀ t ∈ S, t.ts.length ≤ 300) := fun t ht => by
    obtain ⟨k, hk, rfl⟩ := List.getElem_of_mem ht
    have hk2 : k < xs.length := by rw [← HSL.out]; exact hk
    have h1 := HSG.out k _ (List.getElem?_eq_getElem hk2)
    rw [List.getElem?_eq_getElem hk] at h1
    rw [Option.some.inj h1]
    exact doSR_ts _ _ (HOX.out k)
  have HAU : Hid (auditF (newX n) S 0 = (0, 0)) := by show _ = _; rw [hS, hx0]; exact audit_all _ xs 0 (hx0 ▸ hok0)
  have HAO : Hid (∀ t, m < xs.length → (∀ u, S[m]? = some u → t.a = u.a) → auditF (newX n) (S.take m ++ t :: S.drop (m + 1)) 0 = if S[m]? = some t then (0, 0) else (9, (m : Int))) := fun t hm ht => by
    have h := audit_one (newX n) xs m t 0 (hx0 ▸ hok0) hm (by rw [← hx0, ← hS]; exact ht)
    rw [← hx0, ← hS, Int.zero_add] at h
    rw [← hx0]
    exact h
  have HXN := Lib.hid (And.intro h0 h1)
  have HOX1 : Hid (Ok (playX x0 xs)) := play_keeps _ hok0
  clear hn hx0 hS hok0 hm h0 h1 ha0
  go_enter Try.func9, Try.ntmps9
  go_wp2_with fail
  refine calls_below (HFW.out _ (HR.out.below (below_alloc (Below.refl _ _) _))) ?_
  intro w1 hb1
  have hw1 := below_trans (below_alloc (Below.refl w.heap.size w) (.cells #[.int .i64 s.a.k, .int .i64 s.a.a, .int .i64 s.a.b, .int .i64 s.a.n, .string s.a.data, .int .i64 s.e, .int .i64 s.now, .int .i64 s.l.id, .int .i64 s.l.fr, .int .i64 s.l.to, .int .i64 s.l.rd, .string s.l.data, .slice ta s.ts.length tc] 55)) hb1
  have hg1 := bl_below (bl_new w (.cells #[.int .i64 s.a.k, .int .i64 s.a.a, .int .i64 s.a.b, .int .i64 s.a.n, .string s.a.data, .int .i64 s.e, .int .i64 s.now, .int .i64 s.l.id, .int .i64 s.l.fr, .int .i64 s.l.to, .int .i64 s.l.rd, .string s.l.data, .slice ta s.ts.length tc] 55)) hb1
  go_wp2_with fail
  refine (HP.out _ (HR.out.below hw1)).mono ?_
  rintro e w2 ⟨v2, A6, c6, rs, rfl, hN2, hO2, hS2, hc6, hb2⟩
  obtain ⟨AW, cW, AC, cC, AT, cT, rfl, oW, oC, oT⟩ := hN2
  go_upto_region 4 with fail
  obtain ⟨x1, hx1⟩ : ∃ x, x = playX x0 xs := ⟨_, rfl⟩
  rw [← hx1] at oW oC oT ⊢
  obtain ⟨w3, hw3⟩ : ∃ w3, w3 = w2.alloc (.cells #[.int .i64 x1.nodes, .int .i64 x1.now, .int .i64 x1.next, .slice AW x1.way.length cW, .slice AC x1.cuts.length cC, .slice AT x1.timers.length cT] 26) := ⟨_, rfl⟩
  have hb23 : Below w2.heap.size w2 w3 := by rw [hw3]; exact below_alloc (Below.refl _ _) _
  have HG9 : Hid (w3.heap[w2.heap.size]? = some (.cells #[.int .i64 x1.nodes, .int .i64 x1.now, .int .i64 x1.next, .slice AW x1.way.length cW, .slice AC x1.cuts.length cC, .slice AT x1.timers.length cT] 26 (0, 0))) := by rw [hw3]; exact bl_new _ _
  have HN9 : Hid (NetV w3 (.agg #[.int .i64 x1.nodes, .int .i64 x1.now, .int .i64 x1.next, .slice AW x1.way.length cW, .slice AC x1.cuts.length cC, .slice AT x1.timers.length cT]) x1) := ⟨AW, cW, AC, cC, AT, cT, rfl, oW.rd.below hb23, oC.rd.below hb23, oT.rd.below hb23⟩
  have HG7 := Lib.hid (bl_below (bl_below hg1 hb2) hb23)
  have HB3 : Hid (Below w.heap.size w w3) := below_trans hw1 (below_trans hb2 hb23)
  have HOL := Lib.hid (hO2.below hb23)
  have HSO := Lib.hid (hS2.below hb23)
  have HRL := Lib.hid (HOL.out.rd)
  have HSS := Lib.hid (HSO.out.is)
  have HLT := Lib.hid (bl_lt hg1)
  have HX1 := Lib.hid hx1
  rw [← hw3]
  clear hw3 hb23 hb2 hb1 hw1 hg1 hO2 hS2 oW oC oT HP HFW hx1 d1 d2
  have hmod := HMOD.out
  have hz0 : ((xs.length : Int) + 1 == 0) = false := beq_eq_false_iff_ne.2 (by omega)
  have q1 : (0 : Int) ≤ (m : Int) := by omega
  have q2 : (m : Int) ≤ (c : Int) := by omega
  have q3 : (m : Int) ≤ (c6 : Int) := by omega
  go_upto_region 5 with fail
  clear HMOD hmod hz0
  go_wp2_with fail
  refine (HP2.out _ (HR.out.below HB3.out)).mono ?_
  rintro e w4 ⟨v4, A7, c7, rs7, rfl, hN4, hR7, hS7, hb4⟩
  obtain ⟨AW4, cW4, AC4, cC4, AT4, cT4, rfl, pW, pC, pT⟩ := hN4
  go_upto_region 6 with fail
  have HB4 := Lib.hid (below_trans HB3.out hb4)
  replace HG9 := Lib.hid (bl_below HG9.out hb4)
  replace HG7 := Lib.hid (bl_below HG7.out hb4)
  replace HN9 := Lib.hid (HN9.out.below hb4)
  replace HRL := Lib.hid (HRL.out.below hb4)
  replace HOL := Lib.hid (HOL.out.below hb4)
  replace HSO := Lib.hid (HSO.out.below hb4)
  replace HSS := Lib.hid (HSS.out.below hb4)
  replace HR := Lib.hid (HR.out.below HB4.out)
  obtain ⟨w5, hw5⟩ : ∃ w5, w5 = w4.alloc (.cells #[.int .i64 (playX x0 (xs.take m)).nodes, .int .i64 (playX x0 (xs.take m)).now, .int .i64 (playX x0 (xs.take m)).next, .slice AW4 (playX x0 (xs.take m)).way.length cW4, .slice AC4 (playX x0 (xs.take m)).cuts.length cC4, .slice AT4 (playX x0 (xs.take m)).timers.length cT4] 26) := ⟨_, rfl⟩
  have hb45 : Below w4.heap.size w4 w5 := by rw [hw5]; exact below_alloc (Below.refl _ _) _
  have HG13 : Hid (w5.heap[w4.heap.size]? = some (.cells #[.int .i64 (playX x0 (xs.take m)).nodes, .int .i64 (playX x0 (xs.take m)).now, .int .i64 (playX x0 (xs.take m)).next, .slice AW4 (playX x0 (xs.take m)).way.length cW4, .slice AC4 (playX x0 (xs.take m)).cuts.length cC4, .slice AT4 (playX x0 (xs.take m)).timers.length cT4] 26 (0, 0))) := by rw [hw5]; exact bl_new _ _
  have HN13 : Hid (NetV w5 (.agg #[.int .i64 (playX x0 (xs.take m)).nodes, .int .i64 (playX x0 (xs.take m)).now, .int .i64 (playX x0 (xs.take m)).next, .slice AW4 (playX x0 (xs.take m)).way.length cW4, .slice AC4 (playX x0 (xs.take m)).cuts.length cC4, .slice AT4 (playX x0 (xs.take m)).timers.length cT4]) (playX x0 (xs.take m))) := ⟨AW4, cW4, AC4, cC4, AT4, cT4, rfl, pW.rd.below hb45, pC.rd.below hb45, pT.rd.below hb45⟩
  have HB45 := Lib.hid hb45
  have hS5 := hS7.below hb45
  have hR5 := hR7.below hb45
  rw [← hw5]
  clear hw5 hb45 hb4 pW pC pT HP2 hR7 hS7
  go_wp2_with fail
  have hmS : (S.take m).length = m := by rw [List.length_take, HSL.out]; omega
  have hsl := RSameLog_any A7 A6 c7 c6 rs7 (rs.take m) (S.take m) (S.take m) w5 hR5 ((HRL.out.below HB45.out).take m) hS5 ((HSS.out.below HB45.out).take m) (by omega) (fun t ht => by have := HTL.out t (List.mem_of_mem_take ht); omega)
  rw [hmS, decide_eq_true rfl] at hsl
  refine calls_below hsl ?_
  intro w6 hb6
  clear hsl hR5 hS5
  have HB46 := Lib.hid (below_trans HB45.out hb6)
  replace HG13 := Lib.hid (bl_below HG13.out hb6)
  replace HN13 := Lib.hid (HN13.out.below hb6)
  have hg13 : w4.heap.size ≤ w4.heap.size := Nat.le_refl _
  clear hb6 HB45
  go_upto_region 9 with fail
  refine wp_st 185 (by rfl) fun f0 hf0 => ?_
  refine wp_loop (repI xs (.int .i64 n) (.slice A xs.length c) (.pointer (some ⟨w.heap.size, 0, none⟩)) (.pointer (some ⟨w2.heap.size, 0, none⟩)) (.slice A6 xs.length c6) (.int .i64 (m : Int)) w4.heap.size (fun k => playX x0 (xs.take k)) w4) (repMu xs.length) ⟨f0, rfl, m, AW4, cW4, AC4, cC4, AT4, cT4, hml, (hf0 0).trans rfl, (hf0 1).trans rfl, (hf0 7).trans rfl, (hf0 9).trans rfl, (hf0 10).trans rfl, (hf0 12).trans rfl, (hf0 13).trans rfl, (hf0 16).trans rfl, HG13, HN13, HB46⟩ ?_
  clear hf0 f0 HG13 HN13 HB46
  rintro a' wr ⟨f, rfl, i, AW5, cW5, AC5, cC5, AT5, cT5, hi, h0, h1, h7, h9, h10, h12, h13, h16, HG, HV, HB⟩
  by_cases hlk : i < xs.length
  · exact rep_round xs A A6 c c6 w4.heap.size S rs x0 _ _ _ _ w4 wr f _ i AW5 AC5 AT5 cW5 cC5 cT5 hlx hlk hg13 HR HRL HSS HSL HOX HSG h0 h1 h7 h9 h10 h12 h13 h16 HG HV HB (fun d _ _ _ _ h => by cases d <;> exact h)
  obtain rfl : i = xs.length := by omega
  simp only [List.take_length, ← HX1.out] at HG HV
  clear hlk hi HOX HSG hg13
  rw [str_all, h0, h1, h7, h9, h10, h12, h13, h16]
  clear h0 h1 h7 h9 h10 h12 h13 h16
  have HB5 := Lib.hid (below_trans HB4.out HB.out)
  replace HG9 := Lib.hid (bl_below HG9.out HB.out)
  replace HG7 := Lib.hid (bl_below HG7.out HB.out)
  replace HN9 := Lib.hid (HN9.out.below HB.out)
  replace HRL := Lib.hid (HRL.out.below HB.out)
  replace HOL := Lib.hid (HOL.out.below HB.out)
  replace HSO := Lib.hid (HSO.out.below HB.out)
  replace HSS := Lib.hid (HSS.out.below HB.out)
  clear HB HB4 HB3 HR
  have hau := Audit_good n S rs A6 c6 wr HXN.out.1 HXN.out.2 HRL.out HSS.out (by rw [HSL.out]; omega)
  rw [HAU.out, HSL.out] at hau
  have HAU2 := Lib.hid hau
  clear hau
  go_wp2_with fail
  refine calls_below HAU2.out ?_
  intro w7 hb7
  clear HAU2 HAU
  have hx1w := HX1.out
  obtain ⟨⟨k0, k1, k2, k3, k4, k5⟩, -⟩ := blc6 (bl_below HG9.out hb7)
  have hlk1 := bl_lt (bl_below HG9.out hb7)
  obtain ⟨⟨p0, p1, p2, p3, p4, p5⟩, -⟩ := blc6 (bl_below HG.out hb7)
  have hlk2 := bl_lt (bl_below HG.out hb7)
  have hlz := len_ok (hx1w ▸ HOX1.out)
  clear hx1w
  go_wp2_with fail
  have hsm := RSame_any x1 x1 _ _ w7 (HN9.out.below hb7) (HV.out.below hb7) (by omega) (by omega) (by omega)
  rw [decide_eq_true rfl] at hsm
  refine calls_below hsm ?_
  intro w8 hb8
  replace hb8 := below_trans hb7 hb8
  clear hsm k0 k1 k2 k3 k4 k5 p0 p1 p2 p3 p4 p5 hlk1 hlk2 hlz
  replace HG7 := Lib.hid (bl_below HG7.out hb8)
  replace HRL := Lib.hid (HRL.out.below hb8)
  replace HOL := Lib.hid (HOL.out.below hb8)
  replace HSO := Lib.hid (HSO.out.below hb8)
  replace HSS := Lib.hid (HSS.out.below hb8)
  replace HB5 := Lib.hid (below_trans HB5.out hb8)
  clear HG9 HG HV HN9 hb7 hb8
  cases hme : ((m : Int) == (xs.length : Int))
  rotate_left 1
  · go_wp2_with fail
    refine calls_below (sane_any _) ?_
    intro w9 hb9
    go_wp2
    go_ret
    exact ⟨rfl, below_trans HB5.out hb9⟩
  have hmlt : m < xs.length := by
    have := beq_eq_false_iff_ne.1 hme
    omega
  go_upto_region 20 with fail
  obtain ⟨bl, ol, s9, tb, tcb, rfl, hs9, hts9, e0, e1, e2, e3, e4, e5, e6, e7, e8, e9, e10, e11, e12⟩ := HRL.out.seen HSS.out m (by rw [HSS.out.1, HSL.out]; exact hmlt)
  have hbl : bl < w8.heap.size := World.block_lt_of_cell? w8 _ e0
  obtain ⟨⟨p0, p1, p2, p3, p4, p5, p6, p7, p8, p9, p10, p11, p12⟩, r0, r1, r2, r3, r4, -⟩ := blc13 HG7.out
  have hlp := bl_lt HG7.out
  have q4 : (m : Int) < (xs.length : Int) := by omega
  go_upto_region 21 with fail
  obtain ⟨w9, hw9⟩ : ∃ w9, w9 = ((((w8.setCell ⟨w.heap.size, 0, none⟩ (.int .i64 s9.a.k)).setCell ⟨w.heap.size, 1, none⟩ (.int .i64 s9.a.a)).setCell ⟨w.heap.size, 2, none⟩ (.int .i64 s9.a.b)).setCell ⟨w.heap.size, 3, none⟩ (.int .i64 s9.a.n)).setCell ⟨w.heap.size, 4, none⟩ (.string s9.a.data) := ⟨_, rfl⟩
  obtain ⟨sN, hsN⟩ : ∃ t : Sn, t = { s with a := s9.a } := ⟨_, rfl⟩
  have HNA : Hid (sN.a = s9.a) := by show _ = _; rw [hsN]
  have HB9 : Hid (Below w.heap.size w w9) := by
    rw [hw9]
    exact ((((HB5.out.setCell (Nat.le_refl _) _).setCell (Nat.le_refl _) _).setCell (Nat.le_refl _) _).setCell (Nat.le_refl _) _).setCell (Nat.le_refl _) _
  have HO9 : Hid (Own w9 w1.heap.size 55 (.slice (some ⟨bl, ol, none⟩) xs.length c6) rs) := by
    rw [hw9]
    exact ((((HOL.out.far (p := ⟨w.heap.size, 0, none⟩) HLT.out _).far (p := ⟨w.heap.size, 1, none⟩) HLT.out _).far (p := ⟨w.heap.size, 2, none⟩) HLT.out _).far (p := ⟨w.heap.size, 3, none⟩) HLT.out _).far (p := ⟨w.heap.size, 4, none⟩) HLT.out _
  have HS9 : Hid (SnsO w9 w1.heap.size rs S) := by
    rw [hw9]
    exact ((((HSO.out.farB (p := ⟨w.heap.size, 0, none⟩) HLT.out _).farB (p := ⟨w.heap.size, 1, none⟩) HLT.out _).farB (p := ⟨w.heap.size, 2, none⟩) HLT.out _).farB (p := ⟨w.heap.size, 3, none⟩) HLT.out _).farB (p := ⟨w.heap.size, 4, none⟩) HLT.out _
  have HG9 : Hid (w9.heap[w.heap.size]? = some (.cells #[.int .i64 sN.a.k, .int .i64 sN.a.a, .int .i64 sN.a.b, .int .i64 sN.a.n, .string sN.a.data, .int .i64 sN.e, .int .i64 sN.now, .int .i64 sN.l.id, .int .i64 sN.l.fr, .int .i64 sN.l.to, .int .i64 sN.l.rd, .string sN.l.data, .slice ta sN.ts.length tc] 55 (0, 0))) := by
    rw [hw9, hsN]
    exact bl_first5 HG7.out _ _ _ _ _
  have HRT9 : Hid (Rd w9 ta sN.ts) := by rw [hsN]; exact HRT.out.below HB9.out
  rw [← hw9]
  clear hw9 hsN HB5 HOL HSO HG7 HRT HRL HSS e0 e1 e2 e3 e4 e5 e6 e7 e8 e9 e10 e11 e12 p0 p1 p2 p3 p4 p5 p6 p7 p8 p9 p10 p11 p12 r0 r1 r2 r3 r4 hbl hlp
  obtain ⟨bl', ol', s9', tb', tcb', he9, hs9', hts9', e0, e1, e2, e3, e4, e5, e6, e7, e8, e9, e10, e11, e12⟩ := HO9.out.rd.seen HS9.out.is m (by rw [HS9.out.1, HSL.out]; exact hmlt)
  obtain ⟨rfl, rfl⟩ : bl = bl' ∧ ol = ol' := by cases he9; exact ⟨rfl, rfl⟩
  obtain rfl : s9 = s9' := Option.some.inj (hs9.out.symm.trans hs9'.out)
  clear he9 hs9' hts9
  have hbl : bl < w9.heap.size := World.block_lt_of_cell? w9 _ e0
  obtain ⟨⟨p0, p1, p2, p3, p4, p5, p6, p7, p8, p9, p10, p11, p12⟩, -⟩ := blc13 HG9.out
  have hlp := bl_lt HG9.out
  refine wp_still_tail 5 (by kernel_rfl) (by kernel_rfl) ?_
  simp only [List.take_succ_cons, List.take_zero, List.drop_succ_cons, List.drop_zero]
  repeat still_step
  refine wpStill_nil ?_
  go_wp2_with fail
  have hsame := RSameSeen_any2 sN s9 ta tb' tc tcb' w9.drew (Rd.drew HRT9.out) (Rd.drew hts9'.out) (by have := HTL.out s9 (List.mem_of_getElem? hs9.out); omega)
  obtain ⟨q, hq⟩ : ∃ q, q = decide (sN = s9) := ⟨_, rfl⟩
  rw [← hq] at hsame
  refine calls_below hsame ?_
  intro wa hba
  have HQ := Lib.hid hq
  have HBA := Lib.hid (below_trans (Below.refl _ w9).drew hba)
  clear hsame hq hba e0 e1 e2 e3 e4 e5 e6 e7 e8 e9 e10 e11 e12 p0 p1 p2 p3 p4 p5 p6 p7 p8 p9 p10 p11 p12 hbl hlp hts9'
  go_upto_region 22 with fail
  refine wp_st 185 (by rfl) fun f0 hf0 => ?_
  have HGA := Lib.hid (bl_below HG9.out HBA.out)
  have HRA := Lib.hid (HO9.out.rd.below HBA.out)
  refine wp_cut (fun a wx => ∃ f' u, a = st 185 f' ∧ f' 0 = .int .i64 n ∧ f' 10 = .slice (some ⟨bl, ol, none⟩) xs.length c6 ∧ f' 12 = .int .i64 (m : Int) ∧ f' 22 = .bool q ∧ f' 23 = u ∧ Hid (Own wx wa.heap.size 55 u (rs.take m ++ [(⟨sN.a, sN.e, sN.now, sN.l, ta, sN.ts.length, tc⟩ : SnR)])) ∧ Hid (Below wa.heap.size wa wx)) ?rest ?first
  case first =>
    intro J K' hJ hK'
    exact rep_put f0 wa bl ol w.heap.size m c6 xs.length rs ⟨sN.a, sN.e, sN.now, sN.l, ta, sN.ts.length, tc⟩ K' _ (fun d _ _ _ _ h => by cases d <;> exact h) ((hf0 7).trans rfl) ((hf0 10).trans rfl) ((hf0 12).trans rfl) HGA HRA (by rw [HS9.out.1]; exact HSL.out) hml hc6 hlx
      (fun a w' ⟨f', u, he, h0, h10, h12, h22, h23, hO, hB⟩ => hK' _ _ (Met.intro (hJ _ _ ⟨f', u, he, h0.trans ((hf0 0).trans rfl), h10, h12, h22.trans ((hf0 22).trans rfl), h23, hO, hB⟩)))
  case rest =>
    rintro a' wb ⟨f', u, rfl, h0, h10, h12, h22, h23, HO, HBB⟩
    rw [str_all, h0, h10, h12, h22, h23]
    clear h0 h10 h12 h22 h23 hf0 f0
    have hSL := HSL.out
    have hrl : rs.length = xs.length := by rw [HS9.out.1]; exact hSL
    have HDL : Hid (xs.length - (m + 1) = (rs.drop (m + 1)).length) := by show _ = _; rw [List.length_drop, hrl]
    have HTL2 : Hid ((rs.take m).length = m) := by show _ = _; rw [List.length_take]; omega
    have HSB := Lib.hid (HS9.out.is.below HBA.out)
    have HRTB := Lib.hid (HRT9.out.below HBA.out)
    have HBZ := Lib.hid (below_trans HB9.out HBA.out)
    have HRB := Lib.hid (HRA.out.below HBB.out)
    have HRN := Lib.hid hrl
    have q5 : (0 : Int) ≤ (m : Int) + 1 := by omega
    have q6 : (m : Int) + 1 ≤ (xs.length : Int) := by omega
    clear HBA HRA HGA HS9 HRT9 HB9 HO9 HG9 hSL hrl
    by_cases h7 : c6 = m + 1
    · have HD0 : Hid (0 = (rs.drop (m + 1)).length) := by show _ = _; rw [← HDL.out]; omega
      subst h7
      go_wp2_with (at_builtin; refine hid_stop ?_)
      show wpList _ _ _ _ _ _
      refine wpList_app wb wa.heap.size rfl (.tmp 155) (.tmp 159) 48 55 _ 136 rfl Try.underlying48 infoS rfl (by decide) (by decide) u (rs.take m ++ [(⟨sN.a, sN.e, sN.now, sN.l, ta, sN.ts.length, tc⟩ : SnR)]) (rs.drop (m + 1)) (some ⟨bl, ol, none⟩) (0) (by rfl) (show _ = _ from congrArg (fun k => Value.slice (some ⟨bl, ol, none⟩) k (0)) HD0.out) HO.out ?hR HBB.out.size ?hL ?_
      case hR =>
        rw [List.drop_eq_nil_of_le (by have := HRN.out; omega)]
        exact fun i hi => absurd hi (by simp)
      case hL => have h := HDL.out; have h2 := HTL2.out; rw [List.length_append, List.length_singleton, ← h, h2]; omega
      intro v1 wc ho hg hat
      have hbc : Below wa.heap.size wa wc := HBB.out.trans ((Below.refl _ wb).grown hg HBB.out.size (fun k hk => (HO.out.lt k hk).1))
      obtain ⟨A9, c9, rfl, hcc, hR9⟩ := ho.slice
      have hS9 : Sns wc (rs.take m ++ [(⟨sN.a, sN.e, sN.now, sN.l, ta, sN.ts.length, tc⟩ : SnR)] ++ rs.drop (m + 1)) (S.take m ++ [sN] ++ S.drop (m + 1)) :=
        (((HSB.out.take m).below hbc).append (Sns.one ⟨rfl, rfl, rfl, rfl, rfl, HRTB.out.below hbc⟩)).append ((HSB.out.drop (m + 1)).below hbc)
      have hLE : (rs.take m ++ [(⟨sN.a, sN.e, sN.now, sN.l, ta, sN.ts.length, tc⟩ : SnR)] ++ rs.drop (m + 1)).length = xs.length := by have h := HDL.out; have h2 := HTL2.out; rw [List.length_append, List.length_append, List.length_singleton, ← h, h2]; omega
      have hau := Audit_good n (S.take m ++ [sN] ++ S.drop (m + 1)) (rs.take m ++ [(⟨sN.a, sN.e, sN.now, sN.l, ta, sN.ts.length, tc⟩ : SnR)] ++ rs.drop (m + 1)) A9 c9 wc HXN.out.1 HXN.out.2 hR9 hS9 (by have h := HDL.out; have h2 := HTL2.out; have h3 := hS9.1; rw [List.length_append, List.length_append, List.length_singleton, ← h, h2] at h3; omega)
      have hao := HAO.out sN hmlt (fun u hu => by rw [hs9.out] at hu; cases hu; exact HNA.out)
      rw [← hS9.1, hLE] at hau
      rw [hLE]
      rw [show S.take m ++ [sN] ++ S.drop (m + 1) = S.take m ++ sN :: S.drop (m + 1) by simp, hao] at hau
      have hbw := below_trans HBZ.out hbc
      clear hS9 hR9 hcc ho hg hat hao hbc
      have HBW := Lib.hid hbw
      clear hbw
      by_cases hqq : sN = s9
      · have hqt : q = true := by rw [HQ.out]; exact decide_eq_true hqq
        rw [if_pos (by rw [hs9.out, hqq])] at hau
        have HAU := Lib.hid hau
        clear hau hqq
        subst hqt
        go_wp2_with fail
        refine calls_below HAU.out ?_
        intro wd hbd
        clear HAU
        go_wp2_with fail
        refine calls_below (sane_any _) ?_
        intro wf hbf
        go_wp2
        go_ret
        exact ⟨rfl, below_trans HBW.out (below_trans hbd hbf)⟩
      · have hqt : q = false := by rw [HQ.out]; exact decide_eq_false hqq
        rw [if_neg (by rw [hs9.out]; intro e; exact hqq (Option.some.inj e).symm)] at hau
        have HAU := Lib.hid hau
        clear hau hqq
        subst hqt
        go_wp2_with fail
        refine calls_below HAU.out ?_
        intro wd hbd
        clear HAU
        go_wp2_with fail
        refine calls_below (sane_any _) ?_
        intro wf hbf
        go_wp2
        go_ret
        exact ⟨rfl, below_trans HBW.out (below_trans hbd hbf)⟩
    · skip
      go_wp2_with (at_builtin; refine hid_stop ?_)
      show wpList _ _ _ _ _ _
      refine wpList_app wb wa.heap.size rfl (.tmp 155) (.tmp 159) 48 55 _ 136 rfl Try.underlying48 infoS rfl (by decide) (by decide) u (rs.take m ++ [(⟨sN.a, sN.e, sN.now, sN.l, ta, sN.ts.length, tc⟩ : SnR)]) (rs.drop (m + 1)) (some ⟨bl, ol + (m + 1) * 13, none⟩) (c6 - (m + 1)) (by rfl) (show _ = _ from congrArg (fun k => Value.slice (some ⟨bl, ol + (m + 1) * 13, none⟩) k (c6 - (m + 1))) HDL.out) HO.out ?hR HBB.out.size ?hL ?_
      case hR =>
        exact HRB.out.dropAt (m + 1)
      case hL => have h := HDL.out; have h2 := HTL2.out; rw [List.length_append, List.length_singleton, ← h, h2]; omega
      intro v1 wc ho hg hat
      have hbc : Below wa.heap.size wa wc := HBB.out.trans ((Below.refl _ wb).grown hg HBB.out.size (fun k hk => (HO.out.lt k hk).1))
      obtain ⟨A9, c9, rfl, hcc, hR9⟩ := ho.slice
      have hS9 : Sns wc (rs.take m ++ [(⟨sN.a, sN.e, sN.now, sN.l, ta, sN.ts.length, tc⟩ : SnR)] ++ rs.drop (m + 1)) (S.take m ++ [sN] ++ S.drop (m + 1)) :=
        (((HSB.out.take m).below hbc).append (Sns.one ⟨rfl, rfl, rfl, rfl, rfl, HRTB.out.below hbc⟩)).append ((HSB.out.drop (m + 1)).below hbc)
      have hLE : (rs.take m ++ [(⟨sN.a, sN.e, sN.now, sN.l, ta, sN.ts.length, tc⟩ : SnR)] ++ rs.drop (m + 1)).length = xs.length := by have h := HDL.out; have h2 := HTL2.out; rw [List.length_append, List.length_append, List.length_singleton, ← h, h2]; omega
      have hau := Audit_good n (S.take m ++ [sN] ++ S.drop (m + 1)) (rs.take m ++ [(⟨sN.a, sN.e, sN.now, sN.l, ta, sN.ts.length, tc⟩ : SnR)] ++ rs.drop (m + 1)) A9 c9 wc HXN.out.1 HXN.out.2 hR9 hS9 (by have h := HDL.out; have h2 := HTL2.out; have h3 := hS9.1; rw [List.length_append, List.length_append, List.length_singleton, ← h, h2] at h3; omega)
      have hao := HAO.out sN hmlt (fun u hu => by rw [hs9.out] at hu; cases hu; exact HNA.out)
      rw [← hS9.1, hLE] at hau
      rw [hLE]
      rw [show S.take m ++ [sN] ++ S.drop (m + 1) = S.take m ++ sN :: S.drop (m + 1) by simp, hao] at hau
      have hbw := below_trans HBZ.out hbc
      clear hS9 hR9 hcc ho hg hat hao hbc
      have HBW := Lib.hid hbw
      clear hbw
      by_cases hqq : sN = s9
      · have hqt : q = true := by rw [HQ.out]; exact decide_eq_true hqq
        rw [if_pos (by rw [hs9.out, hqq])] at hau
        have HAU := Lib.hid hau
        clear hau hqq
        subst hqt
        go_wp2_with fail
        refine calls_below HAU.out ?_
        intro wd hbd
        clear HAU
        go_wp2_with fail
        refine calls_below (sane_any _) ?_
        intro wf hbf
        go_wp2
        go_ret
        exact ⟨rfl, below_trans HBW.out (below_trans hbd hbf)⟩
      · have hqt : q = false := by rw [HQ.out]; exact decide_eq_false hqq
        rw [if_neg (by rw [hs9.out]; intro e; exact hqq (Option.some.inj e).symm)] at hau
        have HAU := Lib.hid hau
        clear hau hqq
        subst hqt
        go_wp2_with fail
        refine calls_below HAU.out ?_
        intro wd hbd
        clear HAU
        go_wp2_with fail
        refine calls_below (sane_any _) ?_
        intro wf hbf
        go_wp2
        go_ret
        exact ⟨rfl, below_trans HBW.out (below_trans hbd hbf)⟩
end Go.Proofs.Ythlbmcfliejdiaa
end

section
set_option linter.unusedVariables false
set_option linter.unusedSimpArgs false
namespace Go.Proofs.Ythlbmcfliejdiaa
open Go.RowKit Go.ChangeShapes Go.WideShapes Go.Deep

section
variable {H : Type} {enc : TypeId × Value → H} {P : Program} {W : World} {base : Nat} {spare : Nat → Bool} {held : Bool}
theorem rd_openC {α : Type} [Enc α] [Inhabited α] {t e : TypeId} {fuel : Nat} {cs : List Value} {x : DataW H × List MemPlace} (ht : P.underlying t = some (.slice e)) (hce : P.cellsOf e = Enc.sz α) (hpos : 0 < Enc.sz α)
    (hel : ∀ n cs' y, DataW.trod enc P W base spare held n e cs' = some y → ∃ z : α, cs' = Enc.enc z) (h : DataW.trod enc P W base spare held fuel t cs = some x) :
    ∃ (A : Option Addr) (xs : List α) (cap : Nat), cs = [.slice A xs.length cap] ∧ Rd W A xs ∧ xs.length ≤ maxLen ∧ xs.length ≤ cap := by
  rcases open_slice ht h with ⟨rfl, rfl⟩ | ⟨a, len, cap, m, n, D, Pl, rfl, hb, hl, hm, hmm, rfl, hx⟩
  · exact ⟨none, [], 0, rfl, Rd.nil _ _, Nat.zero_le _, Nat.zero_le _⟩
  have hlm : len ≤ m := by rw [hmm]; split <;> omega
  obtain ⟨f, hf⟩ := choose_lt (n := len) (p := fun i (z : α) => W.cells? base (a.add (i * P.cellsOf e)) (P.cellsOf e) = some (Enc.enc z)) (fun i hi => by
    obtain ⟨cs', h1, h2⟩ := hx i (by omega)
    obtain ⟨z, rfl⟩ := hel _ _ _ h2
    exact ⟨z, h1⟩)
  refine ⟨some a, (List.range len).map f, cap, by simp, ?_, by simp; omega, by simp; omega⟩
  intro i hi
  have hi' : i < len := by simpa using hi
  obtain ⟨b, off, spot⟩ := a
  have hsp : spot = none := by
    obtain ⟨_, _, hc⟩ := World.cells?_some (hf 0 (by omega))
    have h0 := hc 0 (by omega)
    rw [List.getElem?_eq_getElem (by rw [Enc.len]; exact hpos)] at h0
    simpa [Addr.add] using World.cell?_spot h0
  subst hsp
  refine ⟨b, off, rfl, fun k v hk => ?_⟩
  have hxi : ((List.range len).map f)[i] = f i := by simp
  rw [hxi] at hk
  obtain ⟨_, _, hc⟩ := World.cells?_some (hf i hi')
  have hks : k < Enc.sz α := by
    have := (List.getElem?_eq_some_iff.1 hk).1
    rwa [Enc.len] at this
  have h1 := hc k (by omega)
  rw [hk, hce, add_add] at h1
  have h2 : (⟨b, off, none⟩ : Addr).add (i * Enc.sz α + k) = ⟨b, off + i * Enc.sz α + k, none⟩ := by
    rw [add_plain, Nat.add_assoc]
  rw [h2] at h1
  exact h1
end

section
variable {H : Type} {enc : TypeId × Value → H} {W : World} {base : Nat} {spare : Nat → Bool} {held : Bool}
set_option maxRecDepth 100000 in
theorem ActsC_open {r : Reach} {b0 : Nat} {v : Value} {d : DataW H} {p : List MemPlace} (hv : Value.okWide Try.prog W r b0 46 v) (h : DataW.Trod enc Try.prog W base spare held 46 v d p) :
    ∃ (A : Option Addr) (xs : List Ac) (c : Nat), v = .slice A xs.length c ∧ Rd W A xs ∧ xs.length ≤ 9223372036854775807 ∧ xs.length ≤ c := by
  obtain ⟨a, len, cap, rfl⟩ := okWide_slice Try.underlying46 hv
  obtain ⟨fuel, hf⟩ := h
  have hcs : (Value.slice a len cap).cells.toList = [.slice a len cap] := rfl
  rw [hcs] at hf
  obtain ⟨A, xs, c, he, hR, hl, hc⟩ := rd_openC (α := Ac) Try.underlying46 (by kernel_rfl) (by decide) el_Ac hf
  simp at he
  obtain ⟨rfl, rfl, rfl⟩ := he
  exact ⟨_, xs, _, rfl, hR, by unfold maxLen at hl; omega, hc⟩
set_option maxRecDepth 100000 in
theorem u16_open {t : TypeId} {r : Reach} {b0 : Nat} {v : Value} {d : DataW H} {ps : List MemPlace} (ht : Try.prog.underlying t = some (.int .u16)) (hval : Value.okWide Try.prog W r b0 t v) (hd : DataW.Trod enc Try.prog W base spare held t v d ps) :
    ∃ n, v = .int .u16 n ∧ d = .lit (.int .u16 n) ∧ ps = [] ∧ (Lit.int .u16 n).wf = true ∧ 0 ≤ n ∧ n ≤ 65535 := by
  obtain ⟨n, h1, h2, h3, h4⟩ := open_int ht hval hd
  have h := h4
  simp only [Lit.wf, IntKind.min, IntKind.max, IntKind.signed, IntKind.bits, Bool.and_eq_true, decide_eq_true_eq, if_true, Bool.false_eq_true, if_false] at h
  exact ⟨n, h1, h2, h3, h4, by omega, by omega⟩
set_option maxRecDepth 100000 in
theorem Seen_open {r : Reach} {b0 : Nat} {v : Value} {d : DataW H} {p : List MemPlace} (hv : Value.okWide Try.prog W r b0 55 v) (h : DataW.Trod enc Try.prog W base spare held 55 v d p) :
    ∃ (s : Sn) (ta : Option Addr) (tc : Nat), v = .agg #[.int .i64 s.a.k, .int .i64 s.a.a, .int .i64 s.a.b, .int .i64 s.a.n, .string s.a.data, .int .i64 s.e, .int .i64 s.now, .int .i64 s.l.id, .int .i64 s.l.fr, .int .i64 s.l.to, .int .i64 s.l.rd, .string s.l.data, .slice ta s.ts.length tc] ∧ Rd W ta s.ts := by
  obtain ⟨cs, rfl, hsz⟩ := okWide_struct Try.underlying55 hv
  obtain ⟨fuel, hf⟩ := h
  obtain ⟨xs, k, rfl, _, hlen, hxl, hf⟩ := DataW.trod_struct Try.underlying55 hf
  have hC : Try.prog.cellsOf 55 = 13 := by kernel_rfl
  have hcs : (Value.agg cs).cells.toList = cs.toList := rfl
  rw [hcs] at hlen hf
  rw [hC] at hlen
  obtain ⟨l⟩ := cs
  match l, hlen, xs, hxl with
  | [c0, c1, c2, c3, c4, c5, c6, c7, c8, c9, c10, c11, c12], _, [x0, x1, x2, x3, x4], _ =>
    have g0 : DataW.trod enc Try.prog W base spare held k 53 (([c0, c1, c2, c3, c4, c5, c6, c7, c8, c9, c10, c11, c12].drop 0).take (Try.prog.cellsOf 53)) = some x0 := hf 0 _ rfl
    have g1 : DataW.trod enc Try.prog W base spare held k 29 (([c0, c1, c2, c3, c4, c5, c6, c7, c8, c9, c10, c11, c12].drop 5).take (Try.prog.cellsOf 29)) = some x1 := hf 1 _ rfl
    have g2 : DataW.trod enc Try.prog W base spare held k 3 (([c0, c1, c2, c3, c4, c5, c6, c7, c8, c9, c10, c11, c12].drop 6).take (Try.prog.cellsOf 3)) = some x2 := hf 2 _ rfl
    have g3 : DataW.trod enc Try.prog W base spare held k 33 (([c0, c1, c2, c3, c4, c5, c6, c7, c8, c9, c10, c11, c12].drop 7).take (Try.prog.cellsOf 33)) = some x3 := hf 3 _ rfl
    have g4 : DataW.trod enc Try.prog W base spare held k 24 (([c0, c1, c2, c3, c4, c5, c6, c7, c8, c9, c10, c11, c12].drop 12).take (Try.prog.cellsOf 24)) = some x4 := hf 4 _ rfl
    rw [show Try.prog.cellsOf 53 = 5 by kernel_rfl] at g0
    rw [show Try.prog.cellsOf 29 = 1 by kernel_rfl] at g1
    rw [c_int] at g2
    rw [show Try.prog.cellsOf 33 = 5 by kernel_rfl] at g3
    rw [show Try.prog.cellsOf 24 = 1 by kernel_rfl] at g4
    obtain ⟨a, e0⟩ := el_Ac _ _ _ g0
    obtain ⟨n1, e1, -⟩ := DataW.trod_int Try.underlying29 g1
    obtain ⟨n2, e2, -⟩ := DataW.trod_int Try.underlying3 g2
    obtain ⟨l, e3⟩ := el_Lt _ _ _ g3
    obtain ⟨A4, ts, tc, e4, r4, m4⟩ := rd_open (α := Tm) Try.underlying24 (by kernel_rfl) (by decide) el_Tm g4
    simp [Enc.enc] at e0 e1 e2 e3 e4
    obtain ⟨rfl, rfl, rfl, rfl, rfl⟩ := e0
    obtain ⟨rfl, rfl, rfl, rfl, rfl⟩ := e3
    subst e1 e2 e4
    exact ⟨⟨a, n1, n2, l, ts⟩, A4, tc, rfl, r4⟩
end
end Go.Proofs.Ythlbmcfliejdiaa
end

section
set_option linter.unusedVariables false
namespace Go.Proofs.Ythlbmcfliejdiaa.netRepeats
open Go.ChangeShapes Go.WideShapes Go.ChangeAt Go.RowKit
theorem own : ownKnob Try.prog.godebug = none := by kernel_rfl
theorem laidOut : laidOutB Try.prog = true := by kernel_rfl
set_option maxRecDepth 100000 in
theorem lifted (os : Os) (started : os.Started) (H : Type) (enc : TypeId × Value → H) :
    ReturnsInHanded {} Try.checked os 9 .any (Rows.netRepeatsSpec.pre6 enc Try.prog Try.f9 Rows.netRepeatsRow.domain false) (Rows.netRepeatsSpec.post enc Try.prog Try.f9 false true false false) := by
  refine returnsInHanded_of_change_sized (C := Try.checked) own started (by kernel_rfl) Try.func9
    (ChangeSpec.witness6 (enc := enc) (C := Try.checked) false ⟨#[], #[.int .i64 0, .slice none 0 0, .int .u16 0, .agg #[.int .i64 0, .int .i64 0, .int .i64 0, .int .i64 0, .string ⟨#[]⟩, .int .i64 0, .int .i64 0, .int .i64 0, .int .i64 0, .int .i64 0, .int .i64 0, .string ⟨#[]⟩, .slice none 0 0]], []⟩ 8 (by kernel_rfl) (by kernel_rfl) (by kernel_rfl) (by kernel_rfl)) ?_
  intro W base args ds gs before hval0 hW hcnd hsz0 _
  have hval : ∀ (j : Nat) t v, Try.f9.params[j]? = some t → args[j]? = some v → Value.okWide Try.prog W .any base t v := hval0
  have hW' := hW
  obtain ⟨p, q, hA0, hV, rfl, hfz, hnd⟩ := hW
  have hA : DataW.TrodAll enc Try.prog W 0 (fun _ => true) true Try.f9.params.toList args.toList ds p := hA0
  rw [Try.params9] at hA hval
  obtain ⟨v0, vs0, d0, ds0, p0, q0, hargs, rfl, rfl, h0, r0⟩ := trodAll_cons hA
  obtain ⟨v1, vs1, d1, ds1, p1, q1, rfl, rfl, rfl, h1, r1⟩ := trodAll_cons r0
  obtain ⟨v2, vs2, d2, ds2, p2, q2, rfl, rfl, rfl, h2, r2⟩ := trodAll_cons r1
  obtain ⟨v3, vs3, d3, ds3, p3, q3, rfl, rfl, rfl, h3, r3⟩ := trodAll_cons r2
  obtain ⟨rfl, rfl, rfl⟩ := trodAll_nil r3
  obtain rfl : args = #[v0, v1, v2, v3] := by cases args; simp_all
  obtain ⟨rfl, rfl⟩ := trodVars_none hV
  obtain ⟨a0, rfl, rfl, rfl, w0⟩ := open_int Try.underlying3 (hval 0 3 v0 rfl rfl) h0
  have k1 := h1
  have lt1 : ∀ x ∈ p1, x.block < W.heap.size := by obtain ⟨m, hm⟩ := k1; exact DataW.trod_lt m _ _ _ hm
  obtain ⟨A1, xs1, c1, rfl, hR1, hl1, hc1⟩ := ActsC_open (hval 1 46 v1 rfl rfl) h1
  obtain ⟨a2, rfl, rfl, rfl, w2, lo2, hi2⟩ := u16_open Try.underlying76 (hval 2 76 v2 rfl rfl) h2
  have k3 := h3
  have lt3 : ∀ x ∈ p3, x.block < W.heap.size := by obtain ⟨m, hm⟩ := k3; exact DataW.trod_lt m _ _ _ hm
  obtain ⟨s3, T3, c3, rfl, hR3⟩ := Seen_open (hval 3 55 v3 rfl rfl) h3
  clear hA0 hval0 hsz0
  refine (NetRepeats_any a0 xs1 A1 c1 a2 s3 T3 c3 W hR1 hl1 hc1 lo2 hi2 hR3).mono fun e W' ⟨he, bel⟩ => ?_
  subst he
  exact ⟨_, rfl, _, _, _, [], _, [], hW', trodAll_mk1 (shut_bool Try.underlying4 _), (trodAll_cons_mk (shut_int Try.underlying3 w0) (trodAll_cons_mk (Below.trod laidOut (by kernel_rfl) (of_decide_eq_true (by kernel_rfl)) k1 bel lt1) (trodAll_cons_mk (shut_int Try.underlying76 w2) (trodAll_cons_mk (Below.trod laidOut (by kernel_rfl) (of_decide_eq_true (by kernel_rfl)) k3 bel lt3) trodAll_mk0)))), rfl, bel.frame _, fun h => by cases h⟩
theorem over : Rows.netRepeatsRow.holds Try.pinned (OpenSpec.ofChange Rows.netRepeatsSpec) :=
  OpenClaim.holds_of_wide 9 Try.f9 rfl rfl rfl rfl rfl rfl rfl ⟨rfl, rfl, rfl, rfl, rfl⟩ rfl rfl rfl rfl rfl (by kernel_rfl) Try.func9 (by kernel_rfl)
    (of_decide_eq_true (by kernel_rfl)) (by unfold Func.isWrapper; first | (rw [if_pos (by decide +kernel)]; kernel_rfl) | (rw [if_neg (by decide +kernel)]; exact ⟨rfl, rfl⟩))
    (fun os started H enc _ => lifted os started H enc)
theorem proved : Rows.NetRepeatsSaid := over
end Go.Proofs.Ythlbmcfliejdiaa.netRepeats
namespace Go.Proofs.Ythlbmcfliejdiaa
theorem netRepeats_holds : Rows.NetRepeatsSaid := netRepeats.proved
end Go.Proofs.Ythlbmcfliejdiaa
end
