/- Plain laws of NetConserves: what the law counts agrees with the network, act by act. The first loop of NetConserves: its rounds. (Printed by wip/gen_lawv2.py.). The second and the third loop of NetConserves: their rounds. (Printed by wip/gen_lawvb.py.). The law NetConserves: it returns true. (Printed by wip/gen_lawvc.py.). The given row of NetConserves. (Printed by wip/gen_row.py.). -/
import Derived.Test.YthlbmcfliejdiaaGf
import Derived.Test.YthlbmcfliejdiaaGj
import Derived.Test.YthlbmcfliejdiaaGh
import Derived.Deep.DeepCutAuto
import Derived.Deep.CutBlock
import Derived.Deep.CutRange
import Derived.Test.YthlbmcfliejdiaaRows
import Derived.WalkKit
import Derived.ProofKit
import Derived.OpenShut
import Derived.ShutString
import Derived.ChangeOld
import Derived.Below
import Derived.SizedLaws
import Derived.Carry
section
set_option linter.unusedVariables false
set_option linter.unusedSimpArgs false
namespace Go.Proofs.Ythlbmcfliejdiaa
open Go.RowKit

/-- What became of the letters of a number: how often they came, how often they went. -/
structure Acct where
  i : Int
  o : Int
  deriving DecidableEq
def incA (q : Acct) : Acct := ⟨q.i + 1, q.o⟩
def outA (q : Acct) : Acct := ⟨q.i, q.o + 1⟩
structure Cons where
  sent : List Lt
  all : List Acct
/-- What the law keeps, behind one more act. -/
def consS (c : Cons) (s : Sn) : Cons :=
  if s.e ≠ 0 ∨ s.a.k < 1 ∨ 5 < s.a.k then c
  else if s.a.k = 1 then ⟨c.sent ++ [s.l], c.all ++ [⟨1, 0⟩]⟩
  else if s.a.k = 4 then ⟨c.sent, c.all.modify s.l.id.toNat incA⟩
  else if s.a.k = 2 ∨ s.a.k = 3 then ⟨c.sent, c.all.modify s.l.id.toNat outA⟩
  else c
def cnt (way : List Lt) (j : Nat) : Int := (((way.filter (fun l => decide (l.id = (j : Int)))).length : Nat) : Int)
structure ConsI (k : Nat) (x : Nt) (c : Cons) : Prop where
  ls : (c.sent.length : Int) = x.next
  la : c.all.length = c.sent.length
  wy : ∀ l ∈ x.way, ∃ m, c.sent[l.id.toNat]? = some m ∧ l.fr = m.fr ∧ l.to = m.to ∧ l.data = m.data
  ac : ∀ (j : Nat) q, c.all[j]? = some q → q.i - q.o = cnt x.way j
  bd : ∀ (j : Nat) q, c.all[j]? = some q → 0 ≤ q.o ∧ q.i ≤ k
  ln : c.sent.length ≤ k
theorem cnt_nonneg (way : List Lt) (j : Nat) : 0 ≤ cnt way j := by unfold cnt; omega
theorem cnt_append (xs ys : List Lt) (j : Nat) : cnt (xs ++ ys) j = cnt xs j + cnt ys j := by
  unfold cnt; rw [List.filter_append, List.length_append]; omega
theorem cnt_one (l : Lt) (j : Nat) : cnt [l] j = if l.id = j then 1 else 0 := by
  unfold cnt
  by_cases h : l.id = j <;> simp [h]
theorem cnt_erase : ∀ (way : List Lt) (i : Nat) (l : Lt) (j : Nat), way[i]? = some l → cnt (way.eraseIdx i) j = cnt way j - if l.id = j then 1 else 0
  | [], i, l, j, h => by simp at h
  | y :: r, 0, l, j, h => by
    have : y = l := by simpa using h
    subst this
    have h2 := cnt_append [y] r j
    rw [cnt_one] at h2
    simp only [List.singleton_append] at h2
    rw [List.eraseIdx_cons_zero]
    omega
  | y :: r, i + 1, l, j, h => by
    have ih := cnt_erase r i l j (by simpa using h)
    have h2 := cnt_append [y] r j
    have h3 := cnt_append [y] (r.eraseIdx i) j
    simp only [List.singleton_append] at h2 h3
    rw [List.eraseIdx_cons_succ, h3, ih, h2]
    omega
theorem cnt_set : ∀ (way : List Lt) (i : Nat) (l l' : Lt) (j : Nat), way[i]? = some l → l'.id = l.id → cnt (way.set i l') j = cnt way j
  | [], i, l, l', j, h, _ => by simp at h
  | y :: r, 0, l, l', j, h, he => by
    have : y = l := by simpa using h
    subst this
    have h2 := cnt_append [y] r j
    have h3 := cnt_append [l'] r j
    rw [cnt_one] at h2 h3
    simp only [List.singleton_append] at h2 h3
    rw [List.set_cons_zero, h3, h2, he]
  | y :: r, i + 1, l, l', j, h, he => by
    have ih := cnt_set r i l l' j (by simpa using h) he
    have h2 := cnt_append [y] r j
    have h3 := cnt_append [y] (r.set i l') j
    simp only [List.singleton_append] at h2 h3
    rw [List.set_cons_succ, h3, ih, h2]
theorem cnt_zero {way : List Lt} {j : Nat} (h : ∀ l ∈ way, l.id ≠ j) : cnt way j = 0 := by
  unfold cnt
  rw [List.filter_eq_nil_iff.2 (fun l hl => by simpa using h l hl)]
  rfl
theorem get_modify {α : Type} (xs : List α) (f : α → α) (i j : Nat) : (xs.modify i f)[j]? = if i = j then (xs[j]?).map f else xs[j]? := by
  rw [List.getElem?_modify]
  by_cases h : i = j
  · subst h; cases xs[i]? <;> simp
  · simp [h]
theorem letter_id {x : Nt} (h : Ok x) {l : Lt} (hl : l ∈ x.way) : 0 ≤ l.id ∧ l.id < x.next := by
  have := h.lts l hl
  simp only [isLetterB, Bool.and_eq_true, decide_eq_true_eq] at this
  exact ⟨this.1.1.1.1.2, this.1.1.1.2⟩
theorem cons_mono {k : Nat} {x x' : Nt} {c : Cons} (h : ConsI k x c) (hn : x'.next = x.next) (hw : x'.way = x.way) : ConsI (k + 1) x' c := by
  refine ⟨by rw [hn]; exact h.ls, h.la, by rw [hw]; exact h.wy, by rw [hw]; exact h.ac, fun j q hq => ?_, Nat.le_succ_of_le h.ln⟩
  have := h.bd j q hq
  omega
/-- What an act on a letter leaves and shows. -/
theorem act_letter {x : Nt} (a : Ac) (h2 : 2 ≤ a.k) (h5 : a.k ≤ 5) (he : (actM x a).e = 0) :
    ∃ (i : Nat) (l : Lt), x.way[i]? = some l ∧ (actM x a).x.next = x.next ∧ (actM x a).x.now = x.now ∧ (actM x a).l.id = l.id ∧ (actM x a).l.fr = l.fr ∧ (actM x a).l.to = l.to ∧ (actM x a).l.data = l.data ∧
      ((a.k = 2 ∧ l.rd ≤ x.now ∧ (actM x a).l.rd = l.rd ∧ (actM x a).x.way = x.way.eraseIdx i) ∨ (a.k = 3 ∧ (actM x a).x.way = x.way.eraseIdx i) ∨ (a.k = 4 ∧ (actM x a).x.way = x.way ++ [l]) ∨ (a.k = 5 ∧ ∃ l', l'.id = l.id ∧ l'.fr = l.fr ∧ l'.to = l.to ∧ l'.data = l.data ∧ (actM x a).x.way = x.way.set i l')) := by
  obtain hk | hk | hk | hk : a.k = 2 ∨ a.k = 3 ∨ a.k = 4 ∨ a.k = 5 := by omega
  · have e : actM x a = deliverM x a.n := by unfold actM; simp [hk]
    rw [e] at he ⊢
    unfold deliverM at he ⊢
    split at he
    · simp [errR] at he
    rename_i h1
    rw [if_neg h1]
    split at he
    · simp [errR] at he
    rename_i l hl
    split at he
    · simp [errR] at he
    rename_i h2
    simp only [hl, if_neg h2]
    have hc : canB x l = true := by simpa using h2
    unfold canB at hc
    simp only [Bool.and_eq_true, decide_eq_true_eq] at hc
    exact ⟨_, l, hl, (by first | rfl | trivial), (by first | rfl | trivial), (by first | rfl | trivial), (by first | rfl | trivial), (by first | rfl | trivial), (by first | rfl | trivial), .inl ⟨hk, hc.1, (by first | rfl | trivial), (by first | rfl | trivial)⟩⟩
  · have e : actM x a = loseM x a.n := by unfold actM; simp [hk]
    rw [e] at he ⊢
    unfold loseM at he ⊢
    split at he
    · simp [errR] at he
    rename_i h1
    rw [if_neg h1]
    split at he
    · simp [errR] at he
    rename_i l hl
    simp only [hl]
    exact ⟨_, l, hl, (by first | rfl | trivial), (by first | rfl | trivial), (by first | rfl | trivial), (by first | rfl | trivial), (by first | rfl | trivial), (by first | rfl | trivial), .inr (.inl ⟨hk, (by first | rfl | trivial)⟩)⟩
  · have e : actM x a = doubleM x a.n := by unfold actM; simp [hk]
    rw [e] at he ⊢
    unfold doubleM at he ⊢
    split at he
    · simp [errR] at he
    rename_i h1
    split at he
    · simp [errR] at he
    rename_i h2
    rw [if_neg h1, if_neg h2]
    split at he
    · simp [errR] at he
    rename_i l hl
    simp only [hl]
    exact ⟨_, l, hl, (by first | rfl | trivial), (by first | rfl | trivial), (by first | rfl | trivial), (by first | rfl | trivial), (by first | rfl | trivial), (by first | rfl | trivial), .inr (.inr (.inl ⟨hk, (by first | rfl | trivial)⟩))⟩
  · have e : actM x a = delayM x a.n a.b := by unfold actM; simp [hk]
    rw [e] at he ⊢
    unfold delayM at he ⊢
    split at he
    · simp [errR] at he
    rename_i h1
    split at he
    · simp [errR] at he
    rename_i h2
    rw [if_neg h1, if_neg h2]
    split at he
    · simp [errR] at he
    rename_i l hl
    simp only [hl]
    exact ⟨_, l, hl, (by first | rfl | trivial), (by first | rfl | trivial), (by first | rfl | trivial), (by first | rfl | trivial), (by first | rfl | trivial), (by first | rfl | trivial), .inr (.inr (.inr ⟨hk, { l with rd := x.now + a.b }, (by first | rfl | trivial), (by first | rfl | trivial), (by first | rfl | trivial), (by first | rfl | trivial), (by first | rfl | trivial)⟩))⟩
theorem act_send {x : Nt} (a : Ac) (hk : a.k = 1) (he : (actM x a).e = 0) : (actM x a).x.next = x.next + 1 ∧ (actM x a).x.now = x.now ∧ (actM x a).l = ⟨x.next, a.a, a.b, x.now, a.data⟩ ∧ (actM x a).x.way = x.way ++ [⟨x.next, a.a, a.b, x.now, a.data⟩] := by
  have e : actM x a = sendM x a.a a.b a.data := by unfold actM; simp [hk]
  rw [e] at he ⊢
  unfold sendM at he ⊢
  split at he
  · simp [errR] at he
  rename_i h1
  split at he
  · simp [errR] at he
  rename_i h2
  split at he
  · simp [errR] at he
  rename_i h3
  rw [if_neg h1, if_neg h2, if_neg h3]
  exact ⟨rfl, rfl, rfl, rfl⟩
/-- Other acts leave the letters. -/
theorem act_else {x : Nt} (a : Ac) (hk : a.k < 1 ∨ 5 < a.k) (he : (actM x a).e = 0) : (actM x a).x.next = x.next ∧ (actM x a).x.way = x.way := by
  unfold actM at he ⊢
  rw [if_neg (by omega), if_neg (by omega), if_neg (by omega), if_neg (by omega), if_neg (by omega)] at he ⊢
  split at he
  · rw [if_pos ‹_›]
    unfold cutM at he ⊢
    split at he
    · simp [errR] at he
    rename_i h1
    split at he
    · simp [errR] at he
    rename_i h2
    rw [if_neg h1, if_neg h2]; exact ⟨rfl, rfl⟩
  rename_i n6; rw [if_neg n6]
  split at he
  · rw [if_pos ‹_›]
    unfold healM at he ⊢
    split at he
    · simp [errR] at he
    rename_i h1
    split at he
    · rename_i h2
      rw [if_neg h1, if_pos h2]; exact ⟨rfl, rfl⟩
    · simp [errR] at he
  rename_i n7; rw [if_neg n7]
  split at he
  · rw [if_pos ‹_›]
    unfold setM at he ⊢
    split at he
    · simp [errR] at he
    rename_i h1
    split at he
    · simp [errR] at he
    rename_i h2
    rw [if_neg h1, if_neg h2]; exact ⟨rfl, rfl⟩
  rename_i n8; rw [if_neg n8]
  split at he
  · rw [if_pos ‹_›]
    unfold stopM at he ⊢
    split at he
    · simp [errR] at he
    rename_i h1
    split at he
    · simp [errR] at he
    rename_i h2
    rw [if_neg h1, if_neg h2]; exact ⟨rfl, rfl⟩
  rename_i n9; rw [if_neg n9]
  split at he
  · rw [if_pos ‹_›]
    unfold tickM at he ⊢
    split at he
    · simp [errR] at he
    rename_i h1
    rw [if_neg h1]; exact ⟨rfl, rfl⟩
  · simp [errR] at he
theorem doS_act (x : Nt) (a : Ac) : (doS x a).a = a := by unfold doS; split <;> rfl
theorem doS_e (x : Nt) (a : Ac) : (doS x a).e = (actM x a).e := by
  unfold doS
  split
  · rename_i h; exact h.symm
  · rfl
theorem doS_ok {x : Nt} {a : Ac} (h : (actM x a).e = 0) : doS x a = ⟨a, 0, (actM x a).x.now, (actM x a).l, (actM x a).ts⟩ := by unfold doS; rw [if_pos h]
theorem doX_ok {x : Nt} {a : Ac} (h : (actM x a).e = 0) : doX x a = (actM x a).x := by unfold doX; rw [if_pos h]
theorem doX_no {x : Nt} {a : Ac} (h : ¬ (actM x a).e = 0) : doX x a = x := by unfold doX; rw [if_neg h]
/-- What the law asks of one act. -/
def consOk (c : Cons) (a : Ac) (s : Sn) : Prop :=
  s.e = 0 → 1 ≤ a.k → a.k ≤ 5 →
    (a.k = 1 ∧ s.l.id = c.sent.length ∧ s.l.fr = a.a ∧ s.l.to = a.b ∧ s.l.data = a.data ∧ s.l.rd = s.now) ∨
    (2 ≤ a.k ∧ 0 ≤ s.l.id ∧ s.l.id < c.sent.length ∧ (∃ m, c.sent[s.l.id.toNat]? = some m ∧ s.l.fr = m.fr ∧ s.l.to = m.to ∧ s.l.data = m.data) ∧ (a.k = 2 → s.l.rd ≤ s.now) ∧ (∃ q, c.all[s.l.id.toNat]? = some q ∧ 0 ≤ q.o ∧ (a.k = 4 → q.o ≤ q.i + 1) ∧ (a.k = 5 → q.o ≤ q.i) ∧ (a.k = 2 ∨ a.k = 3 → q.o + 1 ≤ q.i)))
theorem cons_step {k : Nat} {x : Nt} {c : Cons} (h : Ok x) (hi : ConsI k x c) (a : Ac) : consOk c a (doS x a) ∧ ConsI (k + 1) (doX x a) (consS c (doS x a)) := by
  by_cases he : (actM x a).e = 0
  case neg =>
    refine ⟨fun h0 => absurd ((doS_e x a).symm.trans h0) he, ?_⟩
    rw [doX_no he]
    have : consS c (doS x a) = c := by unfold consS; rw [doS_e, if_pos (.inl he)]
    rw [this]
    exact cons_mono hi rfl rfl
  rw [doS_ok he, doX_ok he]
  by_cases hk : a.k < 1 ∨ 5 < a.k
  · obtain ⟨e1, e2⟩ := act_else a hk he
    refine ⟨fun _ h1 h5 => by omega, ?_⟩
    have : consS c ⟨a, 0, (actM x a).x.now, (actM x a).l, (actM x a).ts⟩ = c := by unfold consS; rw [if_pos (.inr hk)]
    rw [this]
    exact cons_mono hi e1 e2
  by_cases h1 : a.k = 1
  · obtain ⟨e1, e2, e3, e4⟩ := act_send a h1 he
    rw [e3]
    have hs0 := h.s0
    refine ⟨fun _ _ _ => .inl ⟨h1, hi.ls.symm, rfl, rfl, rfl, e2.symm⟩, ?_⟩
    have hc : consS c ⟨a, 0, (actM x a).x.now, ⟨x.next, a.a, a.b, x.now, a.data⟩, (actM x a).ts⟩ = ⟨c.sent ++ [⟨x.next, a.a, a.b, x.now, a.data⟩], c.all ++ [⟨1, 0⟩]⟩ := by
      unfold consS; rw [if_neg (by simp; omega), if_pos h1]
    rw [hc]
    have hl := hi.ls
    have hla := hi.la
    refine ⟨by simp [e1]; omega, by simp [hla], ?_, ?_, ?_, by have := hi.ln; simp; omega⟩
    · intro l hm
      rw [e4] at hm
      rcases List.mem_append.1 hm with hm | hm
      · obtain ⟨m, hm1, hm2⟩ := hi.wy l hm
        exact ⟨m, by rw [List.getElem?_append_left (List.getElem?_eq_some_iff.1 hm1).1]; exact hm1, hm2⟩
      · obtain rfl := List.mem_singleton.1 hm
        refine ⟨_, ?_, rfl, rfl, rfl⟩
        show (c.sent ++ _)[x.next.toNat]? = _
        rw [List.getElem?_append_right (by omega)]
        have : x.next.toNat - c.sent.length = 0 := by omega
        rw [this]; rfl
    · intro j q hq
      rw [e4, cnt_append, cnt_one]
      rcases Nat.lt_or_ge j c.all.length with hj | hj
      · rw [List.getElem?_append_left hj] at hq
        rw [hi.ac j q hq, if_neg (by show ¬ x.next = j; omega)]
        omega
      · rw [List.getElem?_append_right hj] at hq
        have hj0 : j - c.all.length = 0 := by
          have := (List.getElem?_eq_some_iff.1 hq).1
          simpa using this
        rw [hj0] at hq
        have hq' : q = ⟨1, 0⟩ := by simpa using hq.symm
        rw [hq', cnt_zero (fun l hl => by have := letter_id h hl; omega), if_pos (by show x.next = j; omega)]
        rfl
    · intro j q hq
      rcases Nat.lt_or_ge j c.all.length with hj | hj
      · rw [List.getElem?_append_left hj] at hq
        have := hi.bd j q hq
        omega
      · rw [List.getElem?_append_right hj] at hq
        have hj0 : j - c.all.length = 0 := by
          have := (List.getElem?_eq_some_iff.1 hq).1
          simpa using this
        rw [hj0] at hq
        have hq' : q = ⟨1, 0⟩ := by simpa using hq.symm
        rw [hq']
        exact ⟨by decide, by show (1 : Int) ≤ ((k + 1 : Nat) : Int); omega⟩
  · obtain ⟨i, l, hl, e1, e2, e3, e4, e5, e6, hcase⟩ := act_letter a (by omega) (by omega) he
    have hlm := mem_at hl
    have hid := letter_id h hlm
    obtain ⟨m, hm1, hm2, hm3, hm4⟩ := hi.wy l hlm
    have hls := hi.ls
    have hla := hi.la
    have hjl : l.id.toNat < c.all.length := by omega
    have hq : c.all[l.id.toNat]? = some c.all[l.id.toNat] := List.getElem?_eq_getElem hjl
    have hac := hi.ac _ _ hq
    have hbd := hi.bd _ _ hq
    have hpos : 1 ≤ cnt x.way l.id.toNat := by
      have h1 := cnt_erase x.way i l l.id.toNat hl
      have h2 := cnt_nonneg (x.way.eraseIdx i) l.id.toNat
      rw [if_pos (by omega)] at h1
      omega
    constructor
    · intro _ _ _
      refine .inr ⟨by omega, ?_, ?_, ⟨m, ?_, ?_, ?_, ?_⟩, ?_, _, ?_, hbd.1, fun _ => by omega, fun _ => by omega, fun _ => by omega⟩
      · show 0 ≤ (actM x a).l.id; rw [e3]; exact hid.1
      · show (actM x a).l.id < _; rw [e3]; omega
      · show c.sent[(actM x a).l.id.toNat]? = _; rw [e3]; exact hm1
      · show (actM x a).l.fr = _; rw [e4]; exact hm2
      · show (actM x a).l.to = _; rw [e5]; exact hm3
      · show (actM x a).l.data = _; rw [e6]; exact hm4
      · intro hk2
        show (actM x a).l.rd ≤ (actM x a).x.now
        rcases hcase with ⟨-, c1, c2, -⟩ | ⟨c1, -⟩ | ⟨c1, -⟩ | ⟨c1, -⟩
        · rw [c2, e2]; exact c1
        all_goals omega
      · show c.all[(actM x a).l.id.toNat]? = _; rw [e3]; exact hq
    · have hwy : ∀ l' ∈ (actM x a).x.way, ∃ m, c.sent[l'.id.toNat]? = some m ∧ l'.fr = m.fr ∧ l'.to = m.to ∧ l'.data = m.data := by
        intro l' hl'
        rcases hcase with ⟨-, -, -, c4⟩ | ⟨-, c4⟩ | ⟨-, c4⟩ | ⟨-, l2, d1, d2, d3, d4, c4⟩
        · rw [c4] at hl'; exact hi.wy l' (List.mem_of_mem_eraseIdx hl')
        · rw [c4] at hl'; exact hi.wy l' (List.mem_of_mem_eraseIdx hl')
        · rw [c4] at hl'
          rcases List.mem_append.1 hl' with hl' | hl'
          · exact hi.wy l' hl'
          · obtain rfl := List.mem_singleton.1 hl'
            exact hi.wy l' hlm
        · rw [c4] at hl'
          rcases List.mem_or_eq_of_mem_set hl' with hl' | rfl
          · exact hi.wy l' hl'
          · exact ⟨m, by rw [d1]; exact hm1, by rw [d2]; exact hm2, by rw [d3]; exact hm3, by rw [d4]; exact hm4⟩
      have hj : ∀ (j : Nat), (l.id = (j : Int)) ↔ l.id.toNat = j := fun j => by omega
      have base : consS c ⟨a, 0, (actM x a).x.now, (actM x a).l, (actM x a).ts⟩ = if a.k = 4 then ⟨c.sent, c.all.modify l.id.toNat incA⟩ else if a.k = 2 ∨ a.k = 3 then ⟨c.sent, c.all.modify l.id.toNat outA⟩ else c := by
        unfold consS
        rw [if_neg (by simp; omega), if_neg h1, e3]
      rw [base]
      have hout : ∀ (ha : (actM x a).x.way = x.way.eraseIdx i), ConsI (k + 1) (actM x a).x ⟨c.sent, c.all.modify l.id.toNat outA⟩ := fun ha => by
        refine ⟨by rw [e1]; exact hls, by simp [hla], hwy, ?_, ?_, Nat.le_succ_of_le hi.ln⟩
        · intro j q hq'
          rw [ha, cnt_erase x.way i l j hl]
          rw [get_modify] at hq'
          by_cases hij : l.id.toNat = j
          · rw [if_pos hij] at hq'
            rw [if_pos ((hj j).2 hij)]
            obtain ⟨q0, h0, rfl⟩ := Option.map_eq_some_iff.1 hq'
            have := hi.ac j q0 h0
            simp only [outA]
            omega
          · rw [if_neg hij] at hq'
            rw [if_neg (fun h => hij ((hj j).1 h)), hi.ac j q hq']
            omega
        · intro j q hq'
          rw [get_modify] at hq'
          by_cases hij : l.id.toNat = j
          · rw [if_pos hij] at hq'
            obtain ⟨q0, h0, rfl⟩ := Option.map_eq_some_iff.1 hq'
            have := hi.bd j q0 h0
            simp only [outA]
            omega
          · rw [if_neg hij] at hq'
            have := hi.bd j q hq'
            omega
      rcases hcase with ⟨c1, -, -, c4⟩ | ⟨c1, c4⟩ | ⟨c1, c4⟩ | ⟨c1, l2, d1, d2, d3, d4, c4⟩
      · rw [if_neg (by omega), if_pos (.inl c1)]; exact hout c4
      · rw [if_neg (by omega), if_pos (.inr c1)]; exact hout c4
      · rw [if_pos c1]
        refine ⟨by rw [e1]; exact hls, by simp [hla], hwy, ?_, ?_, Nat.le_succ_of_le hi.ln⟩
        · intro j q hq'
          rw [c4, cnt_append, cnt_one]
          rw [get_modify] at hq'
          by_cases hij : l.id.toNat = j
          · rw [if_pos hij] at hq'
            rw [if_pos ((hj j).2 hij)]
            obtain ⟨q0, h0, rfl⟩ := Option.map_eq_some_iff.1 hq'
            have := hi.ac j q0 h0
            simp only [incA]
            omega
          · rw [if_neg hij] at hq'
            rw [if_neg (fun h => hij ((hj j).1 h)), hi.ac j q hq']
            omega
        · intro j q hq'
          rw [get_modify] at hq'
          by_cases hij : l.id.toNat = j
          · rw [if_pos hij] at hq'
            obtain ⟨q0, h0, rfl⟩ := Option.map_eq_some_iff.1 hq'
            have := hi.bd j q0 h0
            simp only [incA]
            omega
          · rw [if_neg hij] at hq'
            have := hi.bd j q hq'
            omega
      · rw [if_neg (by omega), if_neg (by omega)]
        refine ⟨by rw [e1]; exact hls, hla, hwy, ?_, ?_, Nat.le_succ_of_le hi.ln⟩
        · intro j q hq'
          rw [c4, cnt_set x.way i l l2 j hl d1]
          exact hi.ac j q hq'
        · intro j q hq'
          have := hi.bd j q hq'
          omega
/-- The law's state behind the first acts. -/
def consF : Cons → List Sn → Cons
  | c, [] => c
  | c, s :: r => consF (consS c s) r
theorem consF_snoc : ∀ (c : Cons) (l : List Sn) (s : Sn), consF c (l ++ [s]) = consS (consF c l) s
  | c, [], s => rfl
  | c, y :: r, s => by simp only [List.cons_append, consF, consF_snoc]
/-- Behind the letters that are on the way, too. -/
def outW : List Acct → List Lt → List Acct
  | c, [] => c
  | c, l :: r => outW (c.modify l.id.toNat outA) r
theorem outW_snoc : ∀ (c : List Acct) (l : List Lt) (s : Lt), outW c (l ++ [s]) = (outW c l).modify s.id.toNat outA
  | c, [], s => rfl
  | c, y :: r, s => by simp only [List.cons_append, outW, outW_snoc]
theorem outW_len : ∀ (c : List Acct) (l : List Lt), (outW c l).length = c.length
  | c, [] => rfl
  | c, y :: r => by rw [outW, outW_len]; simp
theorem outW_get : ∀ (way : List Lt) (c : List Acct) (j : Nat) (q : Acct), (∀ l ∈ way, 0 ≤ l.id) → c[j]? = some q → (outW c way)[j]? = some ⟨q.i, q.o + cnt way j⟩
  | [], c, j, q, _, h => by simp [outW, h, cnt]
  | l :: r, c, j, q, hw, h => by
    have hl := hw l (by simp)
    have h2 := cnt_append [l] r j
    rw [cnt_one] at h2
    simp only [List.singleton_append] at h2
    rw [outW]
    by_cases hij : l.id.toNat = j
    · rw [outW_get r _ j (outA q) (fun l' h' => hw l' (by simp [h'])) (by rw [get_modify, if_pos hij, h]; rfl), h2, if_pos (by omega)]
      simp only [outA, Option.some.injEq, Acct.mk.injEq, true_and]
      omega
    · rw [outW_get r _ j q (fun l' h' => hw l' (by simp [h'])) (by rw [get_modify, if_neg hij, h]), h2, if_neg (by omega)]
      simp
/-- All is counted. -/
theorem cons_end {k : Nat} {x : Nt} {c : Cons} (h : Ok x) (hi : ConsI k x c) (j : Nat) (q : Acct) (hq : (outW c.all x.way)[j]? = some q) : q.i = q.o := by
  have hj : j < c.all.length := by
    have := (List.getElem?_eq_some_iff.1 hq).1
    rwa [outW_len] at this
  have h0 : c.all[j]? = some c.all[j] := List.getElem?_eq_getElem hj
  rw [outW_get x.way c.all j _ (fun l hl => (letter_id h hl).1) h0] at hq
  have h1 := hi.ac j _ h0
  have h2 : q = ⟨c.all[j].i, c.all[j].o + cnt x.way j⟩ := (Option.some.inj hq).symm
  rw [h2]
  simp only
  omega
theorem cons_new {n : Int} : ConsI 0 ⟨n, 0, 0, [], [], []⟩ ⟨[], []⟩ := ⟨rfl, rfl, by simp, by simp, by simp, Nat.le_refl _⟩
end Go.Proofs.Ythlbmcfliejdiaa
end

section
set_option linter.unusedVariables false
set_option linter.unusedSimpArgs false
namespace Go.Proofs.Ythlbmcfliejdiaa
open Go.RowKit

instance : Enc Acct := ⟨2, fun q => [.int .i64 q.i, .int .i64 q.o], fun _ => rfl, by simp [Value.oneCell']⟩
theorem infoA : (Try.prog.info? 57).map (fun i => (i.zero, i.size, i.bytes)) = some (some (.agg #[.int .i64 0, .int .i64 0]), 2, 16) := by kernel_rfl
theorem Rd.qa {w : World} {A : Option Addr} {xs : List Acct} (h : Rd w A xs) (i : Nat) (hi : i < xs.length) :
    ∃ b off x, A = some ⟨b, off, none⟩ ∧ Hid (xs[i]? = some x) ∧ w.cell? ⟨b, off + i * 2, none⟩ = some (.int .i64 x.i) ∧ w.cell? ⟨b, off + i * 2 + 1, none⟩ = some (.int .i64 x.o) := by
  obtain ⟨b, off, x, e, hx, hc⟩ := h.any i hi
  exact ⟨b, off, x, e, hx, hc 0 _ rfl, hc 1 _ rfl⟩
theorem Own.row {α : Type} [Enc α] {w : World} {B : Nat} {e : TypeId} {v : Value} {xs : List α} (h : Own w B e v xs) (hx : 0 < xs.length) : ∃ g cap, v = .slice (some ⟨g, 0, none⟩) xs.length cap := by
  rcases h.2 with ⟨_, h0⟩ | ⟨g, cap, cur, rfl, _⟩
  · omega
  · exact ⟨g, cap, rfl⟩
/-- What was seen, element by element. -/
theorem Rd.sn {w : World} {A : Option Addr} {rs : List SnR} {xs : List Sn} (h : Rd w A rs) (hs : Sns w rs xs) (i : Nat) (hi : i < rs.length) :
    ∃ b off s ta tc, A = some ⟨b, off, none⟩ ∧ Hid (xs[i]? = some s) ∧ Hid (Rd w ta s.ts) ∧ w.cell? ⟨b, off + i * 13, none⟩ = some (.int .i64 s.a.k) ∧ w.cell? ⟨b, off + i * 13 + 1, none⟩ = some (.int .i64 s.a.a) ∧ w.cell? ⟨b, off + i * 13 + 2, none⟩ = some (.int .i64 s.a.b) ∧ w.cell? ⟨b, off + i * 13 + 3, none⟩ = some (.int .i64 s.a.n) ∧ w.cell? ⟨b, off + i * 13 + 4, none⟩ = some (.string s.a.data) ∧
      w.cell? ⟨b, off + i * 13 + 5, none⟩ = some (.int .i64 s.e) ∧ w.cell? ⟨b, off + i * 13 + 6, none⟩ = some (.int .i64 s.now) ∧ w.cell? ⟨b, off + i * 13 + 7, none⟩ = some (.int .i64 s.l.id) ∧ w.cell? ⟨b, off + i * 13 + 8, none⟩ = some (.int .i64 s.l.fr) ∧ w.cell? ⟨b, off + i * 13 + 9, none⟩ = some (.int .i64 s.l.to) ∧ w.cell? ⟨b, off + i * 13 + 10, none⟩ = some (.int .i64 s.l.rd) ∧ w.cell? ⟨b, off + i * 13 + 11, none⟩ = some (.string s.l.data) ∧ w.cell? ⟨b, off + i * 13 + 12, none⟩ = some (.slice ta s.ts.length tc) := by
  obtain ⟨b, off, r, e, hx, hc⟩ := h.any i hi
  have hi2 : i < xs.length := by rw [← hs.1]; exact hi
  obtain ⟨h1, h2, h3, h4, h5, h6⟩ := hs.2 i r xs[i] hx.out (List.getElem?_eq_getElem hi2)
  obtain ⟨ra, re, rn, rl, rta, rtn, rtc⟩ := r
  simp only at h1 h2 h3 h4 h5 h6
  subst h1 h2 h3 h4 h5
  exact ⟨b, off, xs[i], rta, rtc, e, List.getElem?_eq_getElem hi2, h6, hc 0 _ rfl, hc 1 _ rfl, hc 2 _ rfl, hc 3 _ rfl, hc 4 _ rfl, hc 5 _ rfl, hc 6 _ rfl, hc 7 _ rfl, hc 8 _ rfl, hc 9 _ rfl, hc 10 _ rfl, hc 11 _ rfl, hc 12 _ rfl⟩
theorem playS_get : ∀ (x : Nt) (xs : List Ac) (k : Nat) (d : Ac), xs[k]? = some d → (playS x xs)[k]? = some (doSR (playX x (xs.take k)) d)
  | x, [], k, d, h => by simp at h
  | x, b :: l, 0, d, h => by
    have : b = d := by simpa using h
    subst this; rfl
  | x, b :: l, k + 1, d, h => by
    have ih := playS_get (doXR x b) l k d (by simpa using h)
    simpa [playS, playX] using ih
theorem play_take_snoc {x : Nt} {xs : List Ac} {k : Nat} {d : Ac} (h : xs[k]? = some d) : playX x (xs.take (k + 1)) = doXR (playX x (xs.take k)) d := by
  rw [List.take_add_one, h]; exact playX_snoc _ _ _
theorem cons_at {x : Nt} (h : Ok x) (xs : List Ac) : ∀ (k : Nat), k ≤ xs.length → ConsI 0 x ⟨[], []⟩ → ConsI k (playX x (xs.take k)) (consF ⟨[], []⟩ ((playS x xs).take k))
  | 0, _, hi => hi
  | k + 1, hk, hi => by
    have ih := cons_at h xs k (by omega) hi
    have hd : xs[k]? = some xs[k] := List.getElem?_eq_getElem (by omega)
    rw [play_take_snoc hd, List.take_add_one, playS_get x xs k _ hd]
    show ConsI (k + 1) _ (consF _ (_ ++ [_]))
    have hy := play_keeps (xs.take k) h
    rw [consF_snoc, doXR_ok hy, doSR_ok hy]
    exact (cons_step hy ih _).2

/-- The first loop's body of a function. -/
def firstLoop : Code → Option Code
  | .loop c => some c
  | .seq a b => match firstLoop a with
    | some c => some c
    | none => firstLoop b
  | .block _ c => firstLoop c
  | .cond _ a b => match firstLoop a with
    | some c => some c
    | none => firstLoop b
  | _ => none
noncomputable def consBody : Code := ((Try.f4.body.bind firstLoop).getD .skip)
set_option maxRecDepth 100000 in
theorem st_all4 (f : Nat → Value) : st 316 f = ⟨#[f 0, f 1, f 2, f 3, f 4, f 5, f 6, f 7, f 8, f 9, f 10, f 11, f 12, f 13, f 14, f 15, f 16, f 17, f 18, f 19, f 20, f 21, f 22, f 23, f 24, f 25, f 26, f 27, f 28, f 29, f 30, f 31, f 32, f 33, f 34, f 35, f 36, f 37, f 38, f 39, f 40, f 41, f 42, f 43, f 44, f 45, f 46, f 47, f 48, f 49, f 50, f 51, f 52, f 53, f 54, f 55, f 56, f 57, f 58, f 59, f 60, f 61, f 62, f 63, f 64, f 65, f 66, f 67, f 68, f 69, f 70, f 71, f 72, f 73, f 74, f 75, f 76, f 77, f 78, f 79, f 80, f 81, f 82, f 83, f 84, f 85, f 86, f 87, f 88, f 89, f 90, f 91, f 92, f 93, f 94, f 95, f 96, f 97, f 98, f 99, f 100, f 101, f 102, f 103, f 104, f 105, f 106, f 107, f 108, f 109, f 110, f 111, f 112, f 113, f 114, f 115, f 116, f 117, f 118, f 119, f 120, f 121, f 122, f 123, f 124, f 125, f 126, f 127, f 128, f 129, f 130, f 131, f 132, f 133, f 134, f 135, f 136, f 137, f 138, f 139, f 140, f 141, f 142, f 143, f 144, f 145, f 146, f 147, f 148, f 149, f 150, f 151, f 152, f 153, f 154, f 155, f 156, f 157, f 158, f 159, f 160, f 161, f 162, f 163, f 164, f 165, f 166, f 167, f 168, f 169, f 170, f 171, f 172, f 173, f 174, f 175, f 176, f 177, f 178, f 179, f 180, f 181, f 182, f 183, f 184, f 185, f 186, f 187, f 188, f 189, f 190, f 191, f 192, f 193, f 194, f 195, f 196, f 197, f 198, f 199, f 200, f 201, f 202, f 203, f 204, f 205, f 206, f 207, f 208, f 209, f 210, f 211, f 212, f 213, f 214, f 215, f 216, f 217, f 218, f 219, f 220, f 221, f 222, f 223, f 224, f 225, f 226, f 227, f 228, f 229, f 230, f 231, f 232, f 233, f 234, f 235, f 236, f 237, f 238, f 239, f 240, f 241, f 242, f 243, f 244, f 245, f 246, f 247, f 248, f 249, f 250, f 251, f 252, f 253, f 254, f 255, f 256, f 257, f 258, f 259, f 260, f 261, f 262, f 263, f 264, f 265, f 266, f 267, f 268, f 269, f 270, f 271, f 272, f 273, f 274, f 275, f 276, f 277, f 278, f 279, f 280, f 281, f 282, f 283, f 284, f 285, f 286, f 287, f 288, f 289, f 290, f 291, f 292, f 293, f 294, f 295, f 296, f 297, f 298, f 299, f 300, f 301, f 302, f 303, f 304, f 305, f 306, f 307, f 308, f 309, f 310, f 311, f 312, f 313, f 314, f 315], []⟩ := by
  have h : List.range 316 = [0, 1, 2, 3, 4, 5, 6, 7, 8, 9, 10, 11, 12, 13, 14, 15, 16, 17, 18, 19, 20, 21, 22, 23, 24, 25, 26, 27, 28, 29, 30, 31, 32, 33, 34, 35, 36, 37, 38, 39, 40, 41, 42, 43, 44, 45, 46, 47, 48, 49, 50, 51, 52, 53, 54, 55, 56, 57, 58, 59, 60, 61, 62, 63, 64, 65, 66, 67, 68, 69, 70, 71, 72, 73, 74, 75, 76, 77, 78, 79, 80, 81, 82, 83, 84, 85, 86, 87, 88, 89, 90, 91, 92, 93, 94, 95, 96, 97, 98, 99, 100, 101, 102, 103, 104, 105, 106, 107, 108, 109, 110, 111, 112, 113, 114, 115, 116, 117, 118, 119, 120, 121, 122, 123, 124, 125, 126, 127, 128, 129, 130, 131, 132, 133, 134, 135, 136, 137, 138, 139, 140, 141, 142, 143, 144, 145, 146, 147, 148, 149, 150, 151, 152, 153, 154, 155, 156, 157, 158, 159, 160, 161, 162, 163, 164, 165, 166, 167, 168, 169, 170, 171, 172, 173, 174, 175, 176, 177, 178, 179, 180, 181, 182, 183, 184, 185, 186, 187, 188, 189, 190, 191, 192, 193, 194, 195, 196, 197, 198, 199, 200, 201, 202, 203, 204, 205, 206, 207, 208, 209, 210, 211, 212, 213, 214, 215, 216, 217, 218, 219, 220, 221, 222, 223, 224, 225, 226, 227, 228, 229, 230, 231, 232, 233, 234, 235, 236, 237, 238, 239, 240, 241, 242, 243, 244, 245, 246, 247, 248, 249, 250, 251, 252, 253, 254, 255, 256, 257, 258, 259, 260, 261, 262, 263, 264, 265, 266, 267, 268, 269, 270, 271, 272, 273, 274, 275, 276, 277, 278, 279, 280, 281, 282, 283, 284, 285, 286, 287, 288, 289, 290, 291, 292, 293, 294, 295, 296, 297, 298, 299, 300, 301, 302, 303, 304, 305, 306, 307, 308, 309, 310, 311, 312, 313, 314, 315] := by decide +kernel
  unfold st
  rw [h]
  rfl
/-- What is known at the head of a round. -/
def consJ (xs : List Ac) (A : Option Addr) (c : Nat) (A6 : Option Addr) (c6 g5 : Nat) (S : List Sn) (w3 : World) (f : Nat → Value) (wr : World) : Prop :=
  ∃ (k : Nat) (s q : Value), k ≤ xs.length ∧ f 1 = .slice A xs.length c ∧ f 5 = .pointer (some ⟨g5, 0, none⟩) ∧ f 6 = .slice A6 xs.length c6 ∧ f 8 = s ∧ f 9 = q ∧ f 10 = .int .i64 (k : Int) ∧
    Hid (Own wr w3.heap.size 33 s (consF ⟨[], []⟩ (S.take k)).sent) ∧ Hid (Own wr w3.heap.size 57 q (consF ⟨[], []⟩ (S.take k)).all) ∧ Hid (Below w3.heap.size w3 wr)
def consI (xs : List Ac) (A : Option Addr) (c : Nat) (A6 : Option Addr) (c6 g5 : Nat) (S : List Sn) (w3 : World) (a : Act) (wr : World) : Prop := ∃ f, a = st 316 f ∧ consJ xs A c A6 c6 g5 S w3 f wr
def consMu (xs : List Ac) (a : Act) (w : World) : Nat := xs.length - (intOf (a.tmps.getD 10 undef)).toNat
set_option maxRecDepth 100000 in
theorem st_lit17 (f : Nat → Value) (l : List Value) (hl : l.length = 316) (h : ∀ j, j < 76 ∨ 121 ≤ j → f j = l.getD j undef) : st 316 f = ⟨(l.take 76 ++ ([f 76, f 77, f 78, f 79, f 80, f 81, f 82, f 83, f 84, f 85, f 86, f 87, f 88, f 89, f 90, f 91, f 92, f 93, f 94, f 95, f 96, f 97, f 98, f 99, f 100, f 101, f 102, f 103, f 104, f 105, f 106, f 107, f 108, f 109, f 110, f 111, f 112, f 113, f 114, f 115, f 116, f 117, f 118, f 119, f 120] ++ l.drop 121)).toArray, []⟩ := by
  have hm : [f 76, f 77, f 78, f 79, f 80, f 81, f 82, f 83, f 84, f 85, f 86, f 87, f 88, f 89, f 90, f 91, f 92, f 93, f 94, f 95, f 96, f 97, f 98, f 99, f 100, f 101, f 102, f 103, f 104, f 105, f 106, f 107, f 108, f 109, f 110, f 111, f 112, f 113, f 114, f 115, f 116, f 117, f 118, f 119, f 120] = (List.range 45).map (fun i => f (76 + i)) := by
    have h : List.range 45 = [0, 1, 2, 3, 4, 5, 6, 7, 8, 9, 10, 11, 12, 13, 14, 15, 16, 17, 18, 19, 20, 21, 22, 23, 24, 25, 26, 27, 28, 29, 30, 31, 32, 33, 34, 35, 36, 37, 38, 39, 40, 41, 42, 43, 44] := by decide +kernel
    rw [h]; rfl
  rw [hm]
  unfold st
  simp only [Act.mk.injEq, and_true]
  congr 1
  apply List.ext_getElem
  · simp [hl]
  · intro k h1 h2
    have hk : k < 316 := by simpa using h1
    simp only [List.getElem_map, List.getElem_range, List.getElem_append, List.length_take, List.length_map, List.length_range, hl]
    have hg : ∀ j (hj : j < l.length), l.getD j undef = l[j] := fun j hj => by simp [List.getD_eq_getElem?_getD, List.getElem?_eq_getElem hj]
    by_cases c1 : k < 76
    · rw [dif_pos (by omega), h k (by omega), hg k (by omega)]
      simp
    · by_cases c2 : k < 121
      · rw [dif_neg (by omega), dif_pos (by omega)]
        congr 1; omega
      · rw [dif_neg (by omega), dif_neg (by omega), h k (by omega), hg k (by omega)]
        simp only [List.getElem_drop]
        congr 1; omega
set_option maxRecDepth 100000 in
theorem st_lit21 (f : Nat → Value) (l : List Value) (hl : l.length = 316) (h : ∀ j, j < 129 ∨ 172 ≤ j → f j = l.getD j undef) : st 316 f = ⟨(l.take 129 ++ ([f 129, f 130, f 131, f 132, f 133, f 134, f 135, f 136, f 137, f 138, f 139, f 140, f 141, f 142, f 143, f 144, f 145, f 146, f 147, f 148, f 149, f 150, f 151, f 152, f 153, f 154, f 155, f 156, f 157, f 158, f 159, f 160, f 161, f 162, f 163, f 164, f 165, f 166, f 167, f 168, f 169, f 170, f 171] ++ l.drop 172)).toArray, []⟩ := by
  have hm : [f 129, f 130, f 131, f 132, f 133, f 134, f 135, f 136, f 137, f 138, f 139, f 140, f 141, f 142, f 143, f 144, f 145, f 146, f 147, f 148, f 149, f 150, f 151, f 152, f 153, f 154, f 155, f 156, f 157, f 158, f 159, f 160, f 161, f 162, f 163, f 164, f 165, f 166, f 167, f 168, f 169, f 170, f 171] = (List.range 43).map (fun i => f (129 + i)) := by
    have h : List.range 43 = [0, 1, 2, 3, 4, 5, 6, 7, 8, 9, 10, 11, 12, 13, 14, 15, 16, 17, 18, 19, 20, 21, 22, 23, 24, 25, 26, 27, 28, 29, 30, 31, 32, 33, 34, 35, 36, 37, 38, 39, 40, 41, 42] := by decide +kernel
    rw [h]; rfl
  rw [hm]
  unfold st
  simp only [Act.mk.injEq, and_true]
  congr 1
  apply List.ext_getElem
  · simp [hl]
  · intro k h1 h2
    have hk : k < 316 := by simpa using h1
    simp only [List.getElem_map, List.getElem_range, List.getElem_append, List.length_take, List.length_map, List.length_range, hl]
    have hg : ∀ j (hj : j < l.length), l.getD j undef = l[j] := fun j hj => by simp [List.getD_eq_getElem?_getD, List.getElem?_eq_getElem hj]
    by_cases c1 : k < 129
    · rw [dif_pos (by omega), h k (by omega), hg k (by omega)]
      simp
    · by_cases c2 : k < 172
      · rw [dif_neg (by omega), dif_pos (by omega)]
        congr 1; omega
      · rw [dif_neg (by omega), dif_neg (by omega), h k (by omega), hg k (by omega)]
        simp only [List.getElem_drop]
        congr 1; omega
set_option maxHeartbeats 8000000 in
set_option maxRecDepth 100000 in
theorem cons_send (xs : List Ac) (A : Option Addr) (c : Nat) (A6 : Option Addr) (c6 g5 : Nat) (S : List Sn) (rs : List SnR) (x0 : Nt) (w3 wr : World) (f : Nat → Value) (Q0 : Exit → Act → World → Prop) (k : Nat) (u8 u9 : Value) (hlx : xs.length ≤ 300) (hlk : k < xs.length)
    (HR3 : Hid (Rd w3 A xs)) (HRL : Hid (Rd w3 A6 rs)) (HSS : Hid (Sns w3 rs S)) (HRS : Hid (rs.length = xs.length))
    (HCA : Hid (∀ k, k ≤ xs.length → Ok (playX x0 (xs.take k)) ∧ ConsI k (playX x0 (xs.take k)) (consF ⟨[], []⟩ (S.take k)))) (HSG : Hid (∀ k d, xs[k]? = some d → S[k]? = some (doSR (playX x0 (xs.take k)) d)))
    (h1 : f 1 = .slice A xs.length c) (h5 : f 5 = .pointer (some ⟨g5, 0, none⟩)) (h6 : f 6 = .slice A6 xs.length c6) (h8 : f 8 = u8) (h9 : f 9 = u9) (h10 : f 10 = .int .i64 (k : Int))
    (hO8 : Hid (Own wr w3.heap.size 33 u8 (consF ⟨[], []⟩ (S.take k)).sent)) (hO9 : Hid (Own wr w3.heap.size 57 u9 (consF ⟨[], []⟩ (S.take k)).all)) (hB : Hid (Below w3.heap.size w3 wr))
    (hQ0 : ∀ (d : Option Tmp) (v : Value) c a w, Q0 (.panic c) (a.put d v) w → Q0 (.panic c) a w)
    (hkind : Hid (∀ s, S[k]? = some s → s.e = 0 ∧ s.a.k = 1)) :
    consBody.wp Try.prog (Exit.then (fun a' w' => consI xs A c A6 c6 g5 S w3 a' w' ∧ consMu xs a' w' < consMu xs (st 316 f) wr) Q0) (st 316 f) wr := by
  conv => arg 2; whnf
  have hmu : Hid (consMu xs (st 316 f) wr = xs.length - k) := by
    show _ = _
    unfold consMu
    rw [st_getD (by decide), h10]; rfl
  rw [hmu.out]
  rw [st_all4, h1, h5, h6, h8, h9, h10]
  clear h1 h5 h6 h8 h9 h10
  obtain ⟨ba, oa, d, hAeq, hd, c0, c1, c2, c3, c4⟩ := (HR3.out.below hB.out).ac k hlk
  subst hAeq
  obtain ⟨bb, off, s, ta, tc, hAeq, hs, -, e0, e1, e2, e3, e4, e5, e6, e7, e8, e9, e10, e11, -⟩ := (HRL.out.below hB.out).sn (HSS.out.below hB.out) k (by rw [HRS.out]; exact hlk)
  subst hAeq
  have hba : ba < wr.heap.size := World.block_lt_of_cell? wr _ c0
  have hbt : bb < wr.heap.size := World.block_lt_of_cell? wr _ e0
  obtain ⟨hoy, hcy⟩ := HCA.out k (by omega)
  have hsy : s = doSR (playX x0 (xs.take k)) d := Option.some.inj (hs.out.symm.trans (HSG.out k d hd.out))
  rw [doSR_ok hoy] at hsy
  have hstep := cons_step hoy hcy d
  rw [← hsy] at hstep
  have hsa : s.a = d := by rw [hsy]; exact doS_act _ _
  have hnx : consF ⟨[], []⟩ (S.take (k + 1)) = consS (consF ⟨[], []⟩ (S.take k)) s := by rw [List.take_add_one, hs.out]; exact consF_snoc _ _ _
  obtain ⟨cs, hcs⟩ : ∃ c, c = consF ⟨[], []⟩ (S.take k) := ⟨_, rfl⟩
  rw [← hcs] at hO8 hO9 hcy hstep hnx
  have HNX := Lib.hid hnx
  have HCI := Lib.hid hcy
  have HOK := Lib.hid hstep.1
  have hkd := hkind.out s hs.out
  clear hnx hcs hcy hstep hoy hsy hs hd hkind
  obtain ⟨sa, se, snow, ⟨lid, lfr, lto, lrd, ldt⟩, sts⟩ := s
  simp only at hsa e0 e1 e2 e3 e4 e5 e6 e7 e8 e9 e10 e11
  subst hsa
  go_upto_region 15 with fail
  obtain ⟨w7, hw7⟩ : ∃ w7, w7 = wr.alloc (.cells #[.int .i64 lid, .int .i64 lfr, .int .i64 lto, .int .i64 lrd, .string ldt] 33) := ⟨_, rfl⟩
  have hb7 : Below wr.heap.size wr w7 := by rw [hw7]; exact below_alloc (Below.refl _ _) _
  have hm7 : w7.heap[wr.heap.size]? = some (.cells #[.int .i64 lid, .int .i64 lfr, .int .i64 lto, .int .i64 lrd, .string ldt] 33 (0, 0)) := by rw [hw7]; exact bl_new _ _
  rw [← hw7]
  clear hw7
  have H8 := Lib.hid (hO8.out.below hb7)
  have H9 := Lib.hid (hO9.out.below hb7)
  have HB7 := Lib.hid (below_trans hB.out hb7)
  have HM7 := Lib.hid hm7
  have hla := (Nat.lt_of_lt_of_le hba hb7.size)
  have hlb := (Nat.lt_of_lt_of_le hbt hb7.size)
  replace c0 := cell_below hb7 c0
  replace c1 := cell_below hb7 c1
  replace c2 := cell_below hb7 c2
  replace c4 := cell_below hb7 c4
  replace e0 := cell_below hb7 e0
  replace e5 := cell_below hb7 e5
  replace e6 := cell_below hb7 e6
  obtain ⟨⟨m0, m1, m2, m3, m4⟩, -⟩ := blc5 hm7
  have hlm := bl_lt hm7
  clear hb7 hm7 hO8 hO9 hB hba hbt e1 e2 e3 e4 e7 e8 e9 e10 e11 c3
  simp only at hkd
  obtain ⟨hk0, hkK⟩ := hkd
  have t1 : (se != 0) = false := bne_eq_false_iff_eq.2 hk0
  have t2 : decide (sa.k < 1) = false := decide_eq_false (by omega)
  have t3 : decide (5 < sa.k) = false := decide_eq_false (by omega)
  have hk1 : 1 ≤ sa.k := by omega
  have hk5 : sa.k ≤ 5 := by omega
  have hok := HOK.out hk0 hk1 hk5
  have HKK := Lib.hid hkK
  clear hk0 hkK
  have HCS : Hid (consS cs ⟨sa, se, snow, ⟨lid, lfr, lto, lrd, ldt⟩, sts⟩ = if sa.k = 1 then ⟨cs.sent ++ [⟨lid, lfr, lto, lrd, ldt⟩], cs.all ++ [⟨1, 0⟩]⟩ else if sa.k = 4 then ⟨cs.sent, cs.all.modify lid.toNat incA⟩ else if sa.k = 2 ∨ sa.k = 3 then ⟨cs.sent, cs.all.modify lid.toNat outA⟩ else cs) := by
    show _ = _
    unfold consS
    rw [if_neg (by have := bne_eq_false_iff_eq.1 t1; simp only; omega)]
  have HLA : Hid (cs.all.length = cs.sent.length) := HCI.out.la
  have HLS : Hid (cs.sent.length ≤ 300) := Nat.le_trans HCI.out.ln (by omega)
  clear HOK
  simp only at hok
  have q1 : (sa.k == 1) = true := beq_iff_eq.2 HKK.out
  have hkk : sa.k = 1 := beq_iff_eq.1 q1
  have hcs2 := HCS.out.trans (if_pos hkk)
  have HC2 := Lib.hid hcs2
  obtain ⟨-, g1, g2, g3, g4, g5⟩ | ⟨g1, -⟩ := hok
  rotate_left 1
  · omega
  have p1 : (lid != (cs.sent.length : Int)) = false := bne_eq_false_iff_eq.2 g1
  have p2 : (lfr != sa.a) = false := bne_eq_false_iff_eq.2 g2
  have p3 : (lto != sa.b) = false := bne_eq_false_iff_eq.2 g3
  subst g4
  have p5 : (lrd != snow) = false := bne_eq_false_iff_eq.2 g5
  clear g1 g2 g3 g5 hkk hcs2 HCS
  obtain ⟨A8, c8, hu8, -, -⟩ := H8.out.slice
  subst hu8
  go_upto_region 17 with fail
  go_cut [120] from 76 to 120 (fun s wx => s = .bool false ∧ Hid (Below w7.heap.size w7 wx))
  case first =>
    refine wp_st 316 (by rfl) fun f0 hf0 => ?_
    have iq12 : f0 12 = .pointer (some ⟨wr.heap.size, 0, none⟩) := (hf0 12).trans rfl
    have iq10 : f0 10 = .int .i64 (k : Int) := (hf0 10).trans rfl
    have iq1 : f0 1 = .slice (some ⟨ba, oa, none⟩) xs.length c := (hf0 1).trans rfl
    have iq6 : f0 6 = .slice (some ⟨bb, off, none⟩) xs.length c6 := (hf0 6).trans rfl
    have iq8 : f0 8 = .slice A8 cs.sent.length c8 := (hf0 8).trans rfl
    have HF0 := Lib.hid hf0
    clear hf0
    refine wp_mixW [1, 4, 3, 4, 5, 15, 7, 13, 10, 10, 11, 12, 13, 14, 15, 25, 17, 23, 20, 20, 21, 22, 23, 24, 25, 35, 27, 33, 30, 30, 31, 32, 33, 34, 35, 44, 37, 43, 40, 40, 41, 42, 43, 44] [(0, true), (1, true), (2, true), (3, true), (4, true), (5, true), (6, true), (7, true), (8, true), (9, true), (10, true), (11, true), (12, true), (13, true), (14, true), (15, true), (16, true), (17, true), (18, true), (19, true), (20, true), (21, true), (22, true), (23, true), (24, true), (25, true), (26, true), (27, true), (28, true), (29, true), (30, true), (31, true), (32, true), (33, true), (34, true), (35, true), (36, true), (37, true), (38, true), (39, true), (40, true), (41, true), (42, true), (43, true)] 44
      (fun w' => Below w7.heap.size w7 w')
      (by kernel_rfl) (by kernel_rfl) (by kernel_rfl) (by kernel_rfl) (by kernel_rfl) (fun d v c a w h => hQ0 d v c a w h) (Below.refl _ _).drew ?_
    intro ops K Q1 hops HK
    have o_5 := hops.out 5 _ rfl
    have o_15 := hops.out 15 _ rfl
    have o_25 := hops.out 25 _ rfl
    have o_35 := hops.out 35 _ rfl
    clear hops
    simp only [pick, List.map_cons, List.map_nil, List.getD_cons_zero, List.getD_cons_succ, List.drop_succ_cons, List.drop_zero]
    apply mixS_take (i := 76) rfl (by decide) (want_none rfl)
    case hy => intro W' hW'; obtain ⟨hwc, -⟩ := bcell hW'; simp only [execOp, st_eval, st_const, st_func, upd, Nat.reduceLT, Nat.reduceEqDiff, if_true, if_false, ite_true, ite_false, reduceIte, iq12, iq10, iq1, iq6, iq8, List.map_toArray, List.map_cons, List.map_nil]; (try go_simp); try rfl
    apply mixS_take (i := 77) rfl (by decide) (want_none rfl)
    case hy => intro W' hW'; obtain ⟨hwc, -⟩ := bcell hW'; simp only [execOp, st_eval, st_const, st_func, upd, Nat.reduceLT, Nat.reduceEqDiff, if_true, if_false, ite_true, ite_false, reduceIte, iq12, iq10, iq1, iq6, iq8, List.map_toArray, List.map_cons, List.map_nil]; (try go_simp); try rfl
    apply mixS_take (i := 78) rfl (by decide) (want_none rfl)
    case hy => intro W' hW'; obtain ⟨hwc, -⟩ := bcell hW'; simp only [execOp, st_eval, st_const, st_func, upd, Nat.reduceLT, Nat.reduceEqDiff, if_true, if_false, ite_true, ite_false, reduceIte, iq12, iq10, iq1, iq6, iq8, List.map_toArray, List.map_cons, List.map_nil]; (try go_simp); try rfl
    apply mixS_take (i := 79) rfl (by decide) (want_none rfl)
    case hy => intro W' hW'; obtain ⟨hwc, -⟩ := bcell hW'; simp only [execOp, st_eval, st_const, st_func, upd, Nat.reduceLT, Nat.reduceEqDiff, if_true, if_false, ite_true, ite_false, reduceIte, iq12, iq10, iq1, iq6, iq8, List.map_toArray, List.map_cons, List.map_nil]; (try go_simp); try rfl
    apply mixS_take (i := 80) rfl (by decide) (want_none rfl)
    case hy => intro W' hW'; obtain ⟨hwc, -⟩ := bcell hW'; simp only [execOp, st_eval, st_const, st_func, upd, Nat.reduceLT, Nat.reduceEqDiff, if_true, if_false, ite_true, ite_false, reduceIte, iq12, iq10, iq1, iq6, iq8, List.map_toArray, List.map_cons, List.map_nil]; (try go_simp); try rfl
    apply mixS_take (i := 81) rfl (by decide) (want_none rfl)
    case hy => intro W' hW'; obtain ⟨hwc, -⟩ := bcell hW'; simp only [execOp, st_eval, st_const, st_func, upd, Nat.reduceLT, Nat.reduceEqDiff, if_true, if_false, ite_true, ite_false, reduceIte, iq12, iq10, iq1, iq6, iq8, List.map_toArray, List.map_cons, List.map_nil]; (try go_simp); try rfl
    apply mixS_take (i := 82) rfl (by decide) (want_st (j := 5) (i := 81) rfl o_5 rfl (by decide) (by first | rfl | simp [upd, *]))
    case hy => intro W' hW'; obtain ⟨hwc, -⟩ := bcell hW'; simp only [execOp, st_eval, st_const, st_func, upd, Nat.reduceLT, Nat.reduceEqDiff, if_true, if_false, ite_true, ite_false, reduceIte, iq12, iq10, iq1, iq6, iq8, List.map_toArray, List.map_cons, List.map_nil]; (try go_simp); try rfl
    apply mixS_take (i := 83) rfl (by decide) (want_st (j := 5) (i := 81) rfl o_5 rfl (by decide) (by first | rfl | simp [upd, *]))
    case hy => intro W' hW'; obtain ⟨hwc, -⟩ := bcell hW'; simp only [execOp, st_eval, st_const, st_func, upd, Nat.reduceLT, Nat.reduceEqDiff, if_true, if_false, ite_true, ite_false, reduceIte, iq12, iq10, iq1, iq6, iq8, List.map_toArray, List.map_cons, List.map_nil]; (try go_simp); try rfl
    apply mixS_take (i := 84) rfl (by decide) (want_st (j := 5) (i := 81) rfl o_5 rfl (by decide) (by first | rfl | simp [upd, *]))
    case hy => intro W' hW'; obtain ⟨hwc, -⟩ := bcell hW'; simp only [execOp, st_eval, st_const, st_func, upd, Nat.reduceLT, Nat.reduceEqDiff, if_true, if_false, ite_true, ite_false, reduceIte, iq12, iq10, iq1, iq6, iq8, List.map_toArray, List.map_cons, List.map_nil]; (try go_simp); try rfl
    apply mixS_take (i := 85) rfl (by decide) (want_st (j := 5) (i := 81) rfl o_5 rfl (by decide) (by first | rfl | simp [upd, *]))
    case hy => intro W' hW'; obtain ⟨hwc, -⟩ := bcell hW'; simp only [execOp, st_eval, st_const, st_func, upd, Nat.reduceLT, Nat.reduceEqDiff, if_true, if_false, ite_true, ite_false, reduceIte, iq12, iq10, iq1, iq6, iq8, List.map_toArray, List.map_cons, List.map_nil]; (try go_simp); try rfl
    apply mixS_take (i := 86) rfl (by decide) (want_st (j := 5) (i := 81) rfl o_5 rfl (by decide) (by first | rfl | simp [upd, *]))
    case hy => intro W' hW'; obtain ⟨hwc, -⟩ := bcell hW'; simp only [execOp, st_eval, st_const, st_func, upd, Nat.reduceLT, Nat.reduceEqDiff, if_true, if_false, ite_true, ite_false, reduceIte, iq12, iq10, iq1, iq6, iq8, List.map_toArray, List.map_cons, List.map_nil]; (try go_simp); try rfl
    apply mixS_take (i := 87) rfl (by decide) (want_st (j := 5) (i := 81) rfl o_5 rfl (by decide) (by first | rfl | simp [upd, *]))
    case hy => intro W' hW'; obtain ⟨hwc, -⟩ := bcell hW'; simp only [execOp, st_eval, st_const, st_func, upd, Nat.reduceLT, Nat.reduceEqDiff, if_true, if_false, ite_true, ite_false, reduceIte, iq12, iq10, iq1, iq6, iq8, List.map_toArray, List.map_cons, List.map_nil]; (try go_simp); try rfl
    apply mixS_take (i := 88) rfl (by decide) (want_st (j := 5) (i := 81) rfl o_5 rfl (by decide) (by first | rfl | simp [upd, *]))
    case hy => intro W' hW'; obtain ⟨hwc, -⟩ := bcell hW'; simp only [execOp, st_eval, st_const, st_func, upd, Nat.reduceLT, Nat.reduceEqDiff, if_true, if_false, ite_true, ite_false, reduceIte, iq12, iq10, iq1, iq6, iq8, List.map_toArray, List.map_cons, List.map_nil]; (try go_simp); try rfl
    apply mixS_take (i := 89) rfl (by decide) (want_st (j := 5) (i := 81) rfl o_5 rfl (by decide) (by first | rfl | simp [upd, *]))
    case hy => intro W' hW'; obtain ⟨hwc, -⟩ := bcell hW'; simp only [execOp, st_eval, st_const, st_func, upd, Nat.reduceLT, Nat.reduceEqDiff, if_true, if_false, ite_true, ite_false, reduceIte, iq12, iq10, iq1, iq6, iq8, List.map_toArray, List.map_cons, List.map_nil]; (try go_simp); try rfl
    apply mixS_take (i := 90) rfl (by decide) (want_none rfl)
    case hy => intro W' hW'; obtain ⟨hwc, -⟩ := bcell hW'; simp only [execOp, st_eval, st_const, st_func, upd, Nat.reduceLT, Nat.reduceEqDiff, if_true, if_false, ite_true, ite_false, reduceIte, iq12, iq10, iq1, iq6, iq8, List.map_toArray, List.map_cons, List.map_nil]; (try go_simp); try rfl
    apply mixS_take (i := 91) rfl (by decide) (want_none rfl)
    case hy => intro W' hW'; obtain ⟨hwc, -⟩ := bcell hW'; simp only [execOp, st_eval, st_const, st_func, upd, Nat.reduceLT, Nat.reduceEqDiff, if_true, if_false, ite_true, ite_false, reduceIte, iq12, iq10, iq1, iq6, iq8, List.map_toArray, List.map_cons, List.map_nil]; (try go_simp); try rfl
    apply mixS_take (i := 92) rfl (by decide) (want_st (j := 15) (i := 91) rfl o_15 rfl (by decide) (by first | rfl | simp [upd, *]))
    case hy => intro W' hW'; obtain ⟨hwc, -⟩ := bcell hW'; simp only [execOp, st_eval, st_const, st_func, upd, Nat.reduceLT, Nat.reduceEqDiff, if_true, if_false, ite_true, ite_false, reduceIte, iq12, iq10, iq1, iq6, iq8, List.map_toArray, List.map_cons, List.map_nil]; (try go_simp); try rfl
    apply mixS_take (i := 93) rfl (by decide) (want_st (j := 15) (i := 91) rfl o_15 rfl (by decide) (by first | rfl | simp [upd, *]))
    case hy => intro W' hW'; obtain ⟨hwc, -⟩ := bcell hW'; simp only [execOp, st_eval, st_const, st_func, upd, Nat.reduceLT, Nat.reduceEqDiff, if_true, if_false, ite_true, ite_false, reduceIte, iq12, iq10, iq1, iq6, iq8, List.map_toArray, List.map_cons, List.map_nil]; (try go_simp); try rfl
    apply mixS_take (i := 94) rfl (by decide) (want_st (j := 15) (i := 91) rfl o_15 rfl (by decide) (by first | rfl | simp [upd, *]))
    case hy => intro W' hW'; obtain ⟨hwc, -⟩ := bcell hW'; simp only [execOp, st_eval, st_const, st_func, upd, Nat.reduceLT, Nat.reduceEqDiff, if_true, if_false, ite_true, ite_false, reduceIte, iq12, iq10, iq1, iq6, iq8, List.map_toArray, List.map_cons, List.map_nil]; (try go_simp); try rfl
    apply mixS_take (i := 95) rfl (by decide) (want_st (j := 15) (i := 91) rfl o_15 rfl (by decide) (by first | rfl | simp [upd, *]))
    case hy => intro W' hW'; obtain ⟨hwc, -⟩ := bcell hW'; simp only [execOp, st_eval, st_const, st_func, upd, Nat.reduceLT, Nat.reduceEqDiff, if_true, if_false, ite_true, ite_false, reduceIte, iq12, iq10, iq1, iq6, iq8, List.map_toArray, List.map_cons, List.map_nil]; (try go_simp); try rfl
    apply mixS_take (i := 96) rfl (by decide) (want_st (j := 15) (i := 91) rfl o_15 rfl (by decide) (by first | rfl | simp [upd, *]))
    case hy => intro W' hW'; obtain ⟨hwc, -⟩ := bcell hW'; simp only [execOp, st_eval, st_const, st_func, upd, Nat.reduceLT, Nat.reduceEqDiff, if_true, if_false, ite_true, ite_false, reduceIte, iq12, iq10, iq1, iq6, iq8, List.map_toArray, List.map_cons, List.map_nil]; (try go_simp); try rfl
    apply mixS_take (i := 97) rfl (by decide) (want_st (j := 15) (i := 91) rfl o_15 rfl (by decide) (by first | rfl | simp [upd, *]))
    case hy => intro W' hW'; obtain ⟨hwc, -⟩ := bcell hW'; simp only [execOp, st_eval, st_const, st_func, upd, Nat.reduceLT, Nat.reduceEqDiff, if_true, if_false, ite_true, ite_false, reduceIte, iq12, iq10, iq1, iq6, iq8, List.map_toArray, List.map_cons, List.map_nil]; (try go_simp); try rfl
    apply mixS_take (i := 98) rfl (by decide) (want_st (j := 15) (i := 91) rfl o_15 rfl (by decide) (by first | rfl | simp [upd, *]))
    case hy => intro W' hW'; obtain ⟨hwc, -⟩ := bcell hW'; simp only [execOp, st_eval, st_const, st_func, upd, Nat.reduceLT, Nat.reduceEqDiff, if_true, if_false, ite_true, ite_false, reduceIte, iq12, iq10, iq1, iq6, iq8, List.map_toArray, List.map_cons, List.map_nil]; (try go_simp); try rfl
    apply mixS_take (i := 99) rfl (by decide) (want_st (j := 15) (i := 91) rfl o_15 rfl (by decide) (by first | rfl | simp [upd, *]))
    case hy => intro W' hW'; obtain ⟨hwc, -⟩ := bcell hW'; simp only [execOp, st_eval, st_const, st_func, upd, Nat.reduceLT, Nat.reduceEqDiff, if_true, if_false, ite_true, ite_false, reduceIte, iq12, iq10, iq1, iq6, iq8, List.map_toArray, List.map_cons, List.map_nil]; (try go_simp); try rfl
    apply mixS_take (i := 100) rfl (by decide) (want_none rfl)
    case hy => intro W' hW'; obtain ⟨hwc, -⟩ := bcell hW'; simp only [execOp, st_eval, st_const, st_func, upd, Nat.reduceLT, Nat.reduceEqDiff, if_true, if_false, ite_true, ite_false, reduceIte, iq12, iq10, iq1, iq6, iq8, List.map_toArray, List.map_cons, List.map_nil]; (try go_simp); try rfl
    apply mixS_take (i := 101) rfl (by decide) (want_none rfl)
    case hy => intro W' hW'; obtain ⟨hwc, -⟩ := bcell hW'; simp only [execOp, st_eval, st_const, st_func, upd, Nat.reduceLT, Nat.reduceEqDiff, if_true, if_false, ite_true, ite_false, reduceIte, iq12, iq10, iq1, iq6, iq8, List.map_toArray, List.map_cons, List.map_nil]; (try go_simp); try rfl
    apply mixS_take (i := 102) rfl (by decide) (want_st (j := 25) (i := 101) rfl o_25 rfl (by decide) (by first | rfl | simp [upd, *]))
    case hy => intro W' hW'; obtain ⟨hwc, -⟩ := bcell hW'; simp only [execOp, st_eval, st_const, st_func, upd, Nat.reduceLT, Nat.reduceEqDiff, if_true, if_false, ite_true, ite_false, reduceIte, iq12, iq10, iq1, iq6, iq8, List.map_toArray, List.map_cons, List.map_nil]; (try go_simp); try rfl
    apply mixS_take (i := 103) rfl (by decide) (want_st (j := 25) (i := 101) rfl o_25 rfl (by decide) (by first | rfl | simp [upd, *]))
    case hy => intro W' hW'; obtain ⟨hwc, -⟩ := bcell hW'; simp only [execOp, st_eval, st_const, st_func, upd, Nat.reduceLT, Nat.reduceEqDiff, if_true, if_false, ite_true, ite_false, reduceIte, iq12, iq10, iq1, iq6, iq8, List.map_toArray, List.map_cons, List.map_nil]; (try go_simp); try rfl
    apply mixS_take (i := 104) rfl (by decide) (want_st (j := 25) (i := 101) rfl o_25 rfl (by decide) (by first | rfl | simp [upd, *]))
    case hy => intro W' hW'; obtain ⟨hwc, -⟩ := bcell hW'; simp only [execOp, st_eval, st_const, st_func, upd, Nat.reduceLT, Nat.reduceEqDiff, if_true, if_false, ite_true, ite_false, reduceIte, iq12, iq10, iq1, iq6, iq8, List.map_toArray, List.map_cons, List.map_nil]; (try go_simp); try rfl
    apply mixS_take (i := 105) rfl (by decide) (want_st (j := 25) (i := 101) rfl o_25 rfl (by decide) (by first | rfl | simp [upd, *]))
    case hy => intro W' hW'; obtain ⟨hwc, -⟩ := bcell hW'; simp only [execOp, st_eval, st_const, st_func, upd, Nat.reduceLT, Nat.reduceEqDiff, if_true, if_false, ite_true, ite_false, reduceIte, iq12, iq10, iq1, iq6, iq8, List.map_toArray, List.map_cons, List.map_nil]; (try go_simp); try rfl
    apply mixS_take (i := 106) rfl (by decide) (want_st (j := 25) (i := 101) rfl o_25 rfl (by decide) (by first | rfl | simp [upd, *]))
    case hy => intro W' hW'; obtain ⟨hwc, -⟩ := bcell hW'; simp only [execOp, st_eval, st_const, st_func, upd, Nat.reduceLT, Nat.reduceEqDiff, if_true, if_false, ite_true, ite_false, reduceIte, iq12, iq10, iq1, iq6, iq8, List.map_toArray, List.map_cons, List.map_nil]; (try go_simp); try rfl
    apply mixS_take (i := 107) rfl (by decide) (want_st (j := 25) (i := 101) rfl o_25 rfl (by decide) (by first | rfl | simp [upd, *]))
    case hy => intro W' hW'; obtain ⟨hwc, -⟩ := bcell hW'; simp only [execOp, st_eval, st_const, st_func, upd, Nat.reduceLT, Nat.reduceEqDiff, if_true, if_false, ite_true, ite_false, reduceIte, iq12, iq10, iq1, iq6, iq8, List.map_toArray, List.map_cons, List.map_nil]; (try go_simp); try rfl
    apply mixS_take (i := 108) rfl (by decide) (want_st (j := 25) (i := 101) rfl o_25 rfl (by decide) (by first | rfl | simp [upd, *]))
    case hy => intro W' hW'; obtain ⟨hwc, -⟩ := bcell hW'; simp only [execOp, st_eval, st_const, st_func, upd, Nat.reduceLT, Nat.reduceEqDiff, if_true, if_false, ite_true, ite_false, reduceIte, iq12, iq10, iq1, iq6, iq8, List.map_toArray, List.map_cons, List.map_nil]; (try go_simp); try rfl
    apply mixS_take (i := 109) rfl (by decide) (want_st (j := 25) (i := 101) rfl o_25 rfl (by decide) (by first | rfl | simp [upd, *]))
    case hy => intro W' hW'; obtain ⟨hwc, -⟩ := bcell hW'; simp only [execOp, st_eval, st_const, st_func, upd, Nat.reduceLT, Nat.reduceEqDiff, if_true, if_false, ite_true, ite_false, reduceIte, iq12, iq10, iq1, iq6, iq8, List.map_toArray, List.map_cons, List.map_nil]; (try go_simp); try rfl
    apply mixS_take (i := 110) rfl (by decide) (want_none rfl)
    case hy => intro W' hW'; obtain ⟨hwc, -⟩ := bcell hW'; simp only [execOp, st_eval, st_const, st_func, upd, Nat.reduceLT, Nat.reduceEqDiff, if_true, if_false, ite_true, ite_false, reduceIte, iq12, iq10, iq1, iq6, iq8, List.map_toArray, List.map_cons, List.map_nil]; (try go_simp); try rfl
    apply mixS_take (i := 111) rfl (by decide) (want_none rfl)
    case hy => intro W' hW'; obtain ⟨hwc, -⟩ := bcell hW'; simp only [execOp, st_eval, st_const, st_func, upd, Nat.reduceLT, Nat.reduceEqDiff, if_true, if_false, ite_true, ite_false, reduceIte, iq12, iq10, iq1, iq6, iq8, List.map_toArray, List.map_cons, List.map_nil]; (try go_simp); try rfl
    apply mixS_take (i := 112) rfl (by decide) (want_st (j := 35) (i := 111) rfl o_35 rfl (by decide) (by first | rfl | simp [upd, *]))
    case hy => intro W' hW'; obtain ⟨hwc, -⟩ := bcell hW'; simp only [execOp, st_eval, st_const, st_func, upd, Nat.reduceLT, Nat.reduceEqDiff, if_true, if_false, ite_true, ite_false, reduceIte, iq12, iq10, iq1, iq6, iq8, List.map_toArray, List.map_cons, List.map_nil]; (try go_simp); try rfl
    apply mixS_take (i := 113) rfl (by decide) (want_st (j := 35) (i := 111) rfl o_35 rfl (by decide) (by first | rfl | simp [upd, *]))
    case hy => intro W' hW'; obtain ⟨hwc, -⟩ := bcell hW'; simp only [execOp, st_eval, st_const, st_func, upd, Nat.reduceLT, Nat.reduceEqDiff, if_true, if_false, ite_true, ite_false, reduceIte, iq12, iq10, iq1, iq6, iq8, List.map_toArray, List.map_cons, List.map_nil]; (try go_simp); try rfl
    apply mixS_take (i := 114) rfl (by decide) (want_st (j := 35) (i := 111) rfl o_35 rfl (by decide) (by first | rfl | simp [upd, *]))
    case hy => intro W' hW'; obtain ⟨hwc, -⟩ := bcell hW'; simp only [execOp, st_eval, st_const, st_func, upd, Nat.reduceLT, Nat.reduceEqDiff, if_true, if_false, ite_true, ite_false, reduceIte, iq12, iq10, iq1, iq6, iq8, List.map_toArray, List.map_cons, List.map_nil]; (try go_simp); try rfl
    apply mixS_take (i := 115) rfl (by decide) (want_st (j := 35) (i := 111) rfl o_35 rfl (by decide) (by first | rfl | simp [upd, *]))
    case hy => intro W' hW'; obtain ⟨hwc, -⟩ := bcell hW'; simp only [execOp, st_eval, st_const, st_func, upd, Nat.reduceLT, Nat.reduceEqDiff, if_true, if_false, ite_true, ite_false, reduceIte, iq12, iq10, iq1, iq6, iq8, List.map_toArray, List.map_cons, List.map_nil]; (try go_simp); try rfl
    apply mixS_take (i := 116) rfl (by decide) (want_st (j := 35) (i := 111) rfl o_35 rfl (by decide) (by first | rfl | simp [upd, *]))
    case hy => intro W' hW'; obtain ⟨hwc, -⟩ := bcell hW'; simp only [execOp, st_eval, st_const, st_func, upd, Nat.reduceLT, Nat.reduceEqDiff, if_true, if_false, ite_true, ite_false, reduceIte, iq12, iq10, iq1, iq6, iq8, List.map_toArray, List.map_cons, List.map_nil]; (try go_simp); try rfl
    apply mixS_take (i := 117) rfl (by decide) (want_st (j := 35) (i := 111) rfl o_35 rfl (by decide) (by first | rfl | simp [upd, *]))
    case hy => intro W' hW'; obtain ⟨hwc, -⟩ := bcell hW'; simp only [execOp, st_eval, st_const, st_func, upd, Nat.reduceLT, Nat.reduceEqDiff, if_true, if_false, ite_true, ite_false, reduceIte, iq12, iq10, iq1, iq6, iq8, List.map_toArray, List.map_cons, List.map_nil]; (try go_simp); try rfl
    apply mixS_take (i := 118) rfl (by decide) (want_st (j := 35) (i := 111) rfl o_35 rfl (by decide) (by first | rfl | simp [upd, *]))
    case hy => intro W' hW'; obtain ⟨hwc, -⟩ := bcell hW'; simp only [execOp, st_eval, st_const, st_func, upd, Nat.reduceLT, Nat.reduceEqDiff, if_true, if_false, ite_true, ite_false, reduceIte, iq12, iq10, iq1, iq6, iq8, List.map_toArray, List.map_cons, List.map_nil]; (try go_simp); try rfl
    apply mixS_take (i := 119) rfl (by decide) (want_st (j := 35) (i := 111) rfl o_35 rfl (by decide) (by first | rfl | simp [upd, *]))
    case hy => intro W' hW'; obtain ⟨hwc, -⟩ := bcell hW'; simp only [execOp, st_eval, st_const, st_func, upd, Nat.reduceLT, Nat.reduceEqDiff, if_true, if_false, ite_true, ite_false, reduceIte, iq12, iq10, iq1, iq6, iq8, List.map_toArray, List.map_cons, List.map_nil]; (try go_simp); try rfl
    refine mix_nil (HK.out _ _ ?_)
    generalize hf9 : upd _ _ _ = f9
    have hlow : ∀ j, j < 76 ∨ 121 ≤ j → f9 j = f0 j := fun j hj => by rw [← hf9]; repeat (rw [upd_ne (by omega)])
    have hA := st_lit17 f9 _ (by rfl) (fun j hj => (hlow j hj).trans (HF0.out j))
    simp only [List.take_succ_cons, List.take_zero, List.drop_succ_cons, List.drop_zero, List.cons_append, List.nil_append] at hA
    rw [hA]
    have p111 := congrFun hf9 111
    simp [upd, undef] at p111
    have p119 := congrFun hf9 119
    simp [upd, undef] at p119
    rw [← p111, ← p119]
    clear hf9 hA hlow p111 p119
    go_wp2
    go_meet
    case rel => exact ⟨rfl, below_drewN (Below.refl _ _) _⟩
  case rest =>
    obtain ⟨rfl, hb8⟩ := hcut
    obtain ⟨w8, hw8⟩ : ∃ w8, w8 = wc := ⟨_, rfl⟩
    rw [← hw8] at hb8 ⊢
    clear hw8
    have H8' := Lib.hid (H8.out.below hb8.out)
    have H9' := Lib.hid (H9.out.below hb8.out)
    have HB8 := Lib.hid (below_trans HB7.out hb8.out)
    clear m0 m1 m2 m3 m4 hlm c0 c1 c2 c4 e0 e5 e6 hla hlb p1 p2 p3 p5
    obtain ⟨⟨m0, m1, m2, m3, m4⟩, -⟩ := blc5 (bl_below HM7.out hb8.out)
    have hlm := bl_lt (bl_below HM7.out hb8.out)
    clear hb8 H8 H9 HB7 HM7
    go_upto_region 19 with fail
    go_wp2_with (at_builtin; refine hid_stop ?_)
    change wpList _ _ _ _ _ (w8.alloc _)
    refine wpList_app _ w3.heap.size rfl (.tmp 121) (.tmp 123) 22 33 _ 48 rfl Try.underlying22 infoW rfl (by decide) (by decide) (.slice A8 cs.sent.length c8) cs.sent [⟨lid, lfr, lto, lrd, sa.data⟩] (some ⟨w8.heap.size, 0, none⟩) 1 rfl rfl (H8'.out.alloc _) ?hR ?hB ?hL ?_
    case hR => exact Rd.new w8 33 (⟨lid, lfr, lto, lrd, sa.data⟩ : Lt) #[.int .i64 lid, .int .i64 lfr, .int .i64 lto, .int .i64 lrd, .string sa.data] rfl
    case hB => have h := HB8.out.size; simp; omega
    case hL => have h := HLS.out; simp; omega
    intro v1 w9 ho hg hat
    have hgq : w8.grownBy w9 (Value.slice A8 cs.sent.length c8).ownBlock := grown_of_alloc hg
    have H8'' := Lib.hid ho
    have H9'' := Lib.hid (H9'.out.kept hgq (H9'.out.ne_own H8'.out (by decide)))
    have HB9 : Hid (Below w3.heap.size w3 w9) := HB8.out.grown hgq HB8.out.size (fun k hk => (H8'.out.lt k hk).1)
    clear ho hg hat hgq m0 m1 m2 m3 m4 hlm H8' H9' HB8
    go_wp2_with (at_builtin; refine hid_stop ?_)
    change wpList _ _ _ _ _ (w9.alloc _)
    refine wpList_app _ w3.heap.size rfl (.tmp 125) (.tmp 127) 51 57 _ 16 rfl Try.underlying51 infoA rfl (by decide) (by decide) u9 cs.all [(⟨1, 0⟩ : Acct)] (some ⟨w9.heap.size, 0, none⟩) 1 rfl rfl (H9''.out.alloc _) ?hR ?hB ?hL ?_
    case hR => exact Rd.new w9 57 (⟨1, 0⟩ : Acct) #[.int .i64 1, .int .i64 0] rfl
    case hB => have h := HB9.out.size; simp; omega
    case hL => have h := HLS.out; have h2 := HLA.out; simp; omega
    intro v2 w10 ho hg hat
    have hgq : w9.grownBy w10 (u9 : Value).ownBlock := grown_of_alloc hg
    have HF9 := Lib.hid ho
    have HF8 := Lib.hid (H8''.out.kept hgq (H8''.out.ne_own H9''.out (by decide)))
    have HF3 : Hid (Below w3.heap.size w3 w10) := HB9.out.grown hgq HB9.out.size (fun k hk => (H9''.out.lt k hk).1)
    clear ho hg hat hgq H8'' H9'' HB9
    go_wp2
    refine ⟨⟨_, st_of 316 (by rfl), k + 1, _, _, by omega, rfl, rfl, rfl, rfl, rfl, by show _ = Value.int .i64 _; go_num, by show Own _ _ _ _ _; rw [HNX.out, HC2.out]; exact HF8.out, by show Own _ _ _ _ _; rw [HNX.out, HC2.out]; exact HF9.out, HF3⟩, ?_⟩
    show xs.length - (intOf (.int .i64 ((k : Int) + 1))).toNat < xs.length - k
    simp [intOf]; omega
set_option maxHeartbeats 8000000 in
set_option maxRecDepth 100000 in
theorem cons_double (xs : List Ac) (A : Option Addr) (c : Nat) (A6 : Option Addr) (c6 g5 : Nat) (S : List Sn) (rs : List SnR) (x0 : Nt) (w3 wr : World) (f : Nat → Value) (Q0 : Exit → Act → World → Prop) (k : Nat) (u8 u9 : Value) (hlx : xs.length ≤ 300) (hlk : k < xs.length)
    (HR3 : Hid (Rd w3 A xs)) (HRL : Hid (Rd w3 A6 rs)) (HSS : Hid (Sns w3 rs S)) (HRS : Hid (rs.length = xs.length))
    (HCA : Hid (∀ k, k ≤ xs.length → Ok (playX x0 (xs.take k)) ∧ ConsI k (playX x0 (xs.take k)) (consF ⟨[], []⟩ (S.take k)))) (HSG : Hid (∀ k d, xs[k]? = some d → S[k]? = some (doSR (playX x0 (xs.take k)) d)))
    (h1 : f 1 = .slice A xs.length c) (h5 : f 5 = .pointer (some ⟨g5, 0, none⟩)) (h6 : f 6 = .slice A6 xs.length c6) (h8 : f 8 = u8) (h9 : f 9 = u9) (h10 : f 10 = .int .i64 (k : Int))
    (hO8 : Hid (Own wr w3.heap.size 33 u8 (consF ⟨[], []⟩ (S.take k)).sent)) (hO9 : Hid (Own wr w3.heap.size 57 u9 (consF ⟨[], []⟩ (S.take k)).all)) (hB : Hid (Below w3.heap.size w3 wr))
    (hQ0 : ∀ (d : Option Tmp) (v : Value) c a w, Q0 (.panic c) (a.put d v) w → Q0 (.panic c) a w)
    (hkind : Hid (∀ s, S[k]? = some s → s.e = 0 ∧ s.a.k = 4)) :
    consBody.wp Try.prog (Exit.then (fun a' w' => consI xs A c A6 c6 g5 S w3 a' w' ∧ consMu xs a' w' < consMu xs (st 316 f) wr) Q0) (st 316 f) wr := by
  conv => arg 2; whnf
  have hmu : Hid (consMu xs (st 316 f) wr = xs.length - k) := by
    show _ = _
    unfold consMu
    rw [st_getD (by decide), h10]; rfl
  rw [hmu.out]
  rw [st_all4, h1, h5, h6, h8, h9, h10]
  clear h1 h5 h6 h8 h9 h10
  obtain ⟨ba, oa, d, hAeq, hd, c0, c1, c2, c3, c4⟩ := (HR3.out.below hB.out).ac k hlk
  subst hAeq
  obtain ⟨bb, off, s, ta, tc, hAeq, hs, -, e0, e1, e2, e3, e4, e5, e6, e7, e8, e9, e10, e11, -⟩ := (HRL.out.below hB.out).sn (HSS.out.below hB.out) k (by rw [HRS.out]; exact hlk)
  subst hAeq
  have hba : ba < wr.heap.size := World.block_lt_of_cell? wr _ c0
  have hbt : bb < wr.heap.size := World.block_lt_of_cell? wr _ e0
  obtain ⟨hoy, hcy⟩ := HCA.out k (by omega)
  have hsy : s = doSR (playX x0 (xs.take k)) d := Option.some.inj (hs.out.symm.trans (HSG.out k d hd.out))
  rw [doSR_ok hoy] at hsy
  have hstep := cons_step hoy hcy d
  rw [← hsy] at hstep
  have hsa : s.a = d := by rw [hsy]; exact doS_act _ _
  have hnx : consF ⟨[], []⟩ (S.take (k + 1)) = consS (consF ⟨[], []⟩ (S.take k)) s := by rw [List.take_add_one, hs.out]; exact consF_snoc _ _ _
  obtain ⟨cs, hcs⟩ : ∃ c, c = consF ⟨[], []⟩ (S.take k) := ⟨_, rfl⟩
  rw [← hcs] at hO8 hO9 hcy hstep hnx
  have HNX := Lib.hid hnx
  have HCI := Lib.hid hcy
  have HOK := Lib.hid hstep.1
  have hkd := hkind.out s hs.out
  clear hnx hcs hcy hstep hoy hsy hs hd hkind
  obtain ⟨sa, se, snow, ⟨lid, lfr, lto, lrd, ldt⟩, sts⟩ := s
  simp only at hsa e0 e1 e2 e3 e4 e5 e6 e7 e8 e9 e10 e11
  subst hsa
  go_upto_region 15 with fail
  obtain ⟨w7, hw7⟩ : ∃ w7, w7 = wr.alloc (.cells #[.int .i64 lid, .int .i64 lfr, .int .i64 lto, .int .i64 lrd, .string ldt] 33) := ⟨_, rfl⟩
  have hb7 : Below wr.heap.size wr w7 := by rw [hw7]; exact below_alloc (Below.refl _ _) _
  have hm7 : w7.heap[wr.heap.size]? = some (.cells #[.int .i64 lid, .int .i64 lfr, .int .i64 lto, .int .i64 lrd, .string ldt] 33 (0, 0)) := by rw [hw7]; exact bl_new _ _
  rw [← hw7]
  clear hw7
  have H8 := Lib.hid (hO8.out.below hb7)
  have H9 := Lib.hid (hO9.out.below hb7)
  have HB7 := Lib.hid (below_trans hB.out hb7)
  have HM7 := Lib.hid hm7
  have hla := (Nat.lt_of_lt_of_le hba hb7.size)
  have hlb := (Nat.lt_of_lt_of_le hbt hb7.size)
  replace c0 := cell_below hb7 c0
  replace c1 := cell_below hb7 c1
  replace c2 := cell_below hb7 c2
  replace c4 := cell_below hb7 c4
  replace e0 := cell_below hb7 e0
  replace e5 := cell_below hb7 e5
  replace e6 := cell_below hb7 e6
  obtain ⟨⟨m0, m1, m2, m3, m4⟩, -⟩ := blc5 hm7
  have hlm := bl_lt hm7
  clear hb7 hm7 hO8 hO9 hB hba hbt e1 e2 e3 e4 e7 e8 e9 e10 e11 c3
  simp only at hkd
  obtain ⟨hk0, hkK⟩ := hkd
  have t1 : (se != 0) = false := bne_eq_false_iff_eq.2 hk0
  have t2 : decide (sa.k < 1) = false := decide_eq_false (by omega)
  have t3 : decide (5 < sa.k) = false := decide_eq_false (by omega)
  have hk1 : 1 ≤ sa.k := by omega
  have hk5 : sa.k ≤ 5 := by omega
  have hok := HOK.out hk0 hk1 hk5
  have HKK := Lib.hid hkK
  clear hk0 hkK
  have HCS : Hid (consS cs ⟨sa, se, snow, ⟨lid, lfr, lto, lrd, ldt⟩, sts⟩ = if sa.k = 1 then ⟨cs.sent ++ [⟨lid, lfr, lto, lrd, ldt⟩], cs.all ++ [⟨1, 0⟩]⟩ else if sa.k = 4 then ⟨cs.sent, cs.all.modify lid.toNat incA⟩ else if sa.k = 2 ∨ sa.k = 3 then ⟨cs.sent, cs.all.modify lid.toNat outA⟩ else cs) := by
    show _ = _
    unfold consS
    rw [if_neg (by have := bne_eq_false_iff_eq.1 t1; simp only; omega)]
  have HLA : Hid (cs.all.length = cs.sent.length) := HCI.out.la
  have HLS : Hid (cs.sent.length ≤ 300) := Nat.le_trans HCI.out.ln (by omega)
  clear HOK
  simp only at hok
  have q1 : (sa.k == 1) = false := beq_eq_false_iff_ne.2 (by have := HKK.out; omega)
  have hne1 : ¬ sa.k = 1 := beq_eq_false_iff_ne.1 q1
  have hcs2 := HCS.out.trans (if_neg hne1)
  obtain ⟨g1, -⟩ | ⟨g1, g2, g3, ⟨m, g4, g5, g6, g7⟩, g8, q, g9, g10, g11, g12, g13⟩ := hok
  · exact absurd g1 hne1
  obtain ⟨j, hj⟩ : ∃ j : Nat, lid = j := ⟨lid.toNat, by omega⟩
  subst hj
  rw [Int.toNat_natCast] at g4 g9 hcs2
  have hjl : j < cs.sent.length := by omega
  have hjl2 : j < cs.all.length := by rw [HLA.out]; exact hjl
  subst g7
  have p1 : decide ((j : Int) < 0) = false := decide_eq_false (by omega)
  have p2 : decide (cs.sent.length ≤ j) = false := decide_eq_false (by omega)
  have p2' : decide ((cs.sent.length : Int) ≤ (j : Int)) = false := decide_eq_false (by omega)
  have p3 : (lfr != m.fr) = false := bne_eq_false_iff_eq.2 g5
  have p4 : (lto != m.to) = false := bne_eq_false_iff_eq.2 g6
  have hq0 : 0 ≤ q.o := g10
  have hq1 : q.o ≤ q.i + 1 := by
    obtain h | h | h : sa.k = 4 ∨ sa.k = 5 ∨ (sa.k = 2 ∨ sa.k = 3) := by omega
    · exact g11 h
    · have := g12 h; omega
    · have := g13 h; omega
  have hq2 : q.i ≤ 300 := by have := (HCI.out.bd j q g9).2; omega
  have HC2 := Lib.hid hcs2
  have HM4 := Lib.hid g4
  have HQ9 := Lib.hid g9
  have HQK := Lib.hid (And.intro g11 (And.intro g12 g13))
  have HRD := Lib.hid g8
  clear hcs2 g1 g2 g3 g4 g5 g6 g8 g9 g10 g11 g12 g13 hne1 HCS
  obtain ⟨A8, c8, hu8, -, hR8⟩ := H8.out.slice
  subst hu8
  obtain ⟨b8, o8, m', hA8, hm', x0, x1', x2, x3, x4⟩ := hR8.lt j hjl
  subst hA8
  obtain rfl : m' = m := Option.some.inj (hm'.out.symm.trans HM4.out)
  have hl8 : b8 < w7.heap.size := World.block_lt_of_cell? w7 _ x0
  clear hR8 hm'
  go_upto_region 21 with fail
  go_cut [171] from 129 to 171 (fun s wx => s = .bool false ∧ Hid (Below w7.heap.size w7 wx))
  case first =>
    refine wp_st 316 (by rfl) fun f0 hf0 => ?_
    have iq12 : f0 12 = .pointer (some ⟨wr.heap.size, 0, none⟩) := (hf0 12).trans rfl
    have iq8 : f0 8 = .slice (some ⟨b8, o8, none⟩) cs.sent.length c8 := (hf0 8).trans rfl
    have HF0 := Lib.hid hf0
    clear hf0
    refine wp_mixW [1, 2, 3, 10, 5, 8, 7, 8, 9, 10, 21, 12, 19, 16, 15, 16, 17, 18, 19, 20, 21, 32, 23, 30, 27, 26, 27, 28, 29, 30, 31, 32, 42, 34, 41, 38, 37, 38, 39, 40, 41, 42] [(0, true), (1, true), (2, true), (3, true), (4, true), (5, true), (6, true), (7, true), (8, true), (9, true), (10, true), (11, true), (12, true), (13, true), (14, true), (15, true), (16, true), (17, true), (18, true), (19, true), (20, true), (21, true), (22, true), (23, true), (24, true), (25, true), (26, true), (27, true), (28, true), (29, true), (30, true), (31, true), (32, true), (33, true), (34, true), (35, true), (36, true), (37, true), (38, true), (39, true), (40, true), (41, true)] 42
      (fun w' => Below w7.heap.size w7 w')
      (by kernel_rfl) (by kernel_rfl) (by kernel_rfl) (by kernel_rfl) (by kernel_rfl) (fun d v c a w h => hQ0 d v c a w h) (Below.refl _ _).drew ?_
    intro ops K Q1 hops HK
    have o_3 := hops.out 3 _ rfl
    have o_10 := hops.out 10 _ rfl
    have o_21 := hops.out 21 _ rfl
    have o_32 := hops.out 32 _ rfl
    clear hops
    simp only [pick, List.map_cons, List.map_nil, List.getD_cons_zero, List.getD_cons_succ, List.drop_succ_cons, List.drop_zero]
    apply mixS_take (i := 129) rfl (by decide) (want_none rfl)
    case hy => intro W' hW'; obtain ⟨hwc, -⟩ := bcell hW'; simp only [execOp, st_eval, st_const, st_func, upd, Nat.reduceLT, Nat.reduceEqDiff, if_true, if_false, ite_true, ite_false, reduceIte, iq12, iq8, List.map_toArray, List.map_cons, List.map_nil]; (try go_simp); try rfl
    apply mixS_take (i := 130) rfl (by decide) (want_none rfl)
    case hy => intro W' hW'; obtain ⟨hwc, -⟩ := bcell hW'; simp only [execOp, st_eval, st_const, st_func, upd, Nat.reduceLT, Nat.reduceEqDiff, if_true, if_false, ite_true, ite_false, reduceIte, iq12, iq8, List.map_toArray, List.map_cons, List.map_nil]; (try go_simp); try rfl
    apply mixS_take (i := 131) rfl (by decide) (want_none rfl)
    case hy => intro W' hW'; obtain ⟨hwc, -⟩ := bcell hW'; simp only [execOp, st_eval, st_const, st_func, upd, Nat.reduceLT, Nat.reduceEqDiff, if_true, if_false, ite_true, ite_false, reduceIte, iq12, iq8, List.map_toArray, List.map_cons, List.map_nil]; (try go_simp); try rfl
    apply mixS_take (i := 132) rfl (by decide) (want_none rfl)
    case hy => intro W' hW'; obtain ⟨hwc, -⟩ := bcell hW'; simp only [execOp, st_eval, st_const, st_func, upd, Nat.reduceLT, Nat.reduceEqDiff, if_true, if_false, ite_true, ite_false, reduceIte, iq12, iq8, List.map_toArray, List.map_cons, List.map_nil]; (try go_simp); try rfl
    apply mixS_take (i := 133) rfl (by decide) (want_st (j := 3) (i := 132) rfl o_3 rfl (by decide) (by first | rfl | simp [upd, *]))
    case hy => intro W' hW'; obtain ⟨hwc, -⟩ := bcell hW'; simp only [execOp, st_eval, st_const, st_func, upd, Nat.reduceLT, Nat.reduceEqDiff, if_true, if_false, ite_true, ite_false, reduceIte, iq12, iq8, List.map_toArray, List.map_cons, List.map_nil]; (try go_simp); try rfl
    apply mixS_take (i := 134) rfl (by decide) (want_st (j := 3) (i := 132) rfl o_3 rfl (by decide) (by first | rfl | simp [upd, *]))
    case hy => intro W' hW'; obtain ⟨hwc, -⟩ := bcell hW'; simp only [execOp, st_eval, st_const, st_func, upd, Nat.reduceLT, Nat.reduceEqDiff, if_true, if_false, ite_true, ite_false, reduceIte, iq12, iq8, List.map_toArray, List.map_cons, List.map_nil]; (try go_simp); try rfl
    apply mixS_take (i := 135) rfl (by decide) (want_st (j := 3) (i := 132) rfl o_3 rfl (by decide) (by first | rfl | simp [upd, *]))
    case hy => intro W' hW'; obtain ⟨hwc, -⟩ := bcell hW'; simp only [execOp, st_eval, st_const, st_func, upd, Nat.reduceLT, Nat.reduceEqDiff, if_true, if_false, ite_true, ite_false, reduceIte, iq12, iq8, List.map_toArray, List.map_cons, List.map_nil]; (try go_simp); try rfl
    apply mixS_take (i := 136) rfl (by decide) (want_st (j := 3) (i := 132) rfl o_3 rfl (by decide) (by first | rfl | simp [upd, *]))
    case hy => intro W' hW'; obtain ⟨hwc, -⟩ := bcell hW'; simp only [execOp, st_eval, st_const, st_func, upd, Nat.reduceLT, Nat.reduceEqDiff, if_true, if_false, ite_true, ite_false, reduceIte, iq12, iq8, List.map_toArray, List.map_cons, List.map_nil]; (try go_simp); try rfl
    apply mixS_take (i := 137) rfl (by decide) (want_st (j := 3) (i := 132) rfl o_3 rfl (by decide) (by first | rfl | simp [upd, *]))
    case hy => intro W' hW'; obtain ⟨hwc, -⟩ := bcell hW'; simp only [execOp, st_eval, st_const, st_func, upd, Nat.reduceLT, Nat.reduceEqDiff, if_true, if_false, ite_true, ite_false, reduceIte, iq12, iq8, List.map_toArray, List.map_cons, List.map_nil]; (try go_simp); try rfl
    apply mixS_take (i := 138) rfl (by decide) (want_none rfl)
    case hy => intro W' hW'; obtain ⟨hwc, -⟩ := bcell hW'; simp only [execOp, st_eval, st_const, st_func, upd, Nat.reduceLT, Nat.reduceEqDiff, if_true, if_false, ite_true, ite_false, reduceIte, iq12, iq8, List.map_toArray, List.map_cons, List.map_nil]; (try go_simp); try rfl
    apply mixS_take (i := 139) rfl (by decide) (want_none rfl)
    case hy => intro W' hW'; obtain ⟨hwc, -⟩ := bcell hW'; simp only [execOp, st_eval, st_const, st_func, upd, Nat.reduceLT, Nat.reduceEqDiff, if_true, if_false, ite_true, ite_false, reduceIte, iq12, iq8, List.map_toArray, List.map_cons, List.map_nil]; (try go_simp); try rfl
    apply mixS_take (i := 140) rfl (by decide) (want_st (j := 10) (i := 139) rfl o_10 rfl (by decide) (by first | rfl | simp [upd, *]))
    case hy => intro W' hW'; obtain ⟨hwc, -⟩ := bcell hW'; simp only [execOp, st_eval, st_const, st_func, upd, Nat.reduceLT, Nat.reduceEqDiff, if_true, if_false, ite_true, ite_false, reduceIte, iq12, iq8, List.map_toArray, List.map_cons, List.map_nil]; (try go_simp); try rfl
    apply mixS_take (i := 141) rfl (by decide) (want_st (j := 10) (i := 139) rfl o_10 rfl (by decide) (by first | rfl | simp [upd, *]))
    case hy => intro W' hW'; obtain ⟨hwc, -⟩ := bcell hW'; simp only [execOp, st_eval, st_const, st_func, upd, Nat.reduceLT, Nat.reduceEqDiff, if_true, if_false, ite_true, ite_false, reduceIte, iq12, iq8, List.map_toArray, List.map_cons, List.map_nil]; (try go_simp); try rfl
    apply mixS_take (i := 142) rfl (by decide) (want_st (j := 10) (i := 139) rfl o_10 rfl (by decide) (by first | rfl | simp [upd, *]))
    case hy => intro W' hW'; obtain ⟨hwc, -⟩ := bcell hW'; simp only [execOp, st_eval, st_const, st_func, upd, Nat.reduceLT, Nat.reduceEqDiff, if_true, if_false, ite_true, ite_false, reduceIte, iq12, iq8, List.map_toArray, List.map_cons, List.map_nil]; (try go_simp); try rfl
    apply mixS_take (i := 143) rfl (by decide) (want_st (j := 10) (i := 139) rfl o_10 rfl (by decide) (by first | rfl | simp [upd, *]))
    case hy => intro W' hW'; obtain ⟨hwc, -⟩ := bcell hW'; simp only [execOp, st_eval, st_const, st_func, upd, Nat.reduceLT, Nat.reduceEqDiff, if_true, if_false, ite_true, ite_false, reduceIte, iq12, iq8, List.map_toArray, List.map_cons, List.map_nil]; (try go_simp); try rfl
    apply mixS_take (i := 144) rfl (by decide) (want_st (j := 10) (i := 139) rfl o_10 rfl (by decide) (by first | rfl | simp [upd, *]))
    case hy => intro W' hW'; obtain ⟨hwc, -⟩ := bcell hW'; simp only [execOp, st_eval, st_const, st_func, upd, Nat.reduceLT, Nat.reduceEqDiff, if_true, if_false, ite_true, ite_false, reduceIte, iq12, iq8, List.map_toArray, List.map_cons, List.map_nil]; (try go_simp); try rfl
    apply mixS_take (i := 145) rfl (by decide) (want_st (j := 10) (i := 139) rfl o_10 rfl (by decide) (by first | rfl | simp [upd, *]))
    case hy => intro W' hW'; obtain ⟨hwc, -⟩ := bcell hW'; simp only [execOp, st_eval, st_const, st_func, upd, Nat.reduceLT, Nat.reduceEqDiff, if_true, if_false, ite_true, ite_false, reduceIte, iq12, iq8, List.map_toArray, List.map_cons, List.map_nil]; (try go_simp); try rfl
    apply mixS_take (i := 146) rfl (by decide) (want_st (j := 10) (i := 139) rfl o_10 rfl (by decide) (by first | rfl | simp [upd, *]))
    case hy => intro W' hW'; obtain ⟨hwc, -⟩ := bcell hW'; simp only [execOp, st_eval, st_const, st_func, upd, Nat.reduceLT, Nat.reduceEqDiff, if_true, if_false, ite_true, ite_false, reduceIte, iq12, iq8, List.map_toArray, List.map_cons, List.map_nil]; (try go_simp); try rfl
    apply mixS_take (i := 147) rfl (by decide) (want_st (j := 10) (i := 139) rfl o_10 rfl (by decide) (by first | rfl | simp [upd, *]))
    case hy => intro W' hW'; obtain ⟨hwc, -⟩ := bcell hW'; simp only [execOp, st_eval, st_const, st_func, upd, Nat.reduceLT, Nat.reduceEqDiff, if_true, if_false, ite_true, ite_false, reduceIte, iq12, iq8, List.map_toArray, List.map_cons, List.map_nil]; (try go_simp); try rfl
    apply mixS_take (i := 148) rfl (by decide) (want_st (j := 10) (i := 139) rfl o_10 rfl (by decide) (by first | rfl | simp [upd, *]))
    case hy => intro W' hW'; obtain ⟨hwc, -⟩ := bcell hW'; simp only [execOp, st_eval, st_const, st_func, upd, Nat.reduceLT, Nat.reduceEqDiff, if_true, if_false, ite_true, ite_false, reduceIte, iq12, iq8, List.map_toArray, List.map_cons, List.map_nil]; (try go_simp); try rfl
    apply mixS_take (i := 149) rfl (by decide) (want_none rfl)
    case hy => intro W' hW'; obtain ⟨hwc, -⟩ := bcell hW'; simp only [execOp, st_eval, st_const, st_func, upd, Nat.reduceLT, Nat.reduceEqDiff, if_true, if_false, ite_true, ite_false, reduceIte, iq12, iq8, List.map_toArray, List.map_cons, List.map_nil]; (try go_simp); try rfl
    apply mixS_take (i := 150) rfl (by decide) (want_none rfl)
    case hy => intro W' hW'; obtain ⟨hwc, -⟩ := bcell hW'; simp only [execOp, st_eval, st_const, st_func, upd, Nat.reduceLT, Nat.reduceEqDiff, if_true, if_false, ite_true, ite_false, reduceIte, iq12, iq8, List.map_toArray, List.map_cons, List.map_nil]; (try go_simp); try rfl
    apply mixS_take (i := 151) rfl (by decide) (want_st (j := 21) (i := 150) rfl o_21 rfl (by decide) (by first | rfl | simp [upd, *]))
    case hy => intro W' hW'; obtain ⟨hwc, -⟩ := bcell hW'; simp only [execOp, st_eval, st_const, st_func, upd, Nat.reduceLT, Nat.reduceEqDiff, if_true, if_false, ite_true, ite_false, reduceIte, iq12, iq8, List.map_toArray, List.map_cons, List.map_nil]; (try go_simp); try rfl
    apply mixS_take (i := 152) rfl (by decide) (want_st (j := 21) (i := 150) rfl o_21 rfl (by decide) (by first | rfl | simp [upd, *]))
    case hy => intro W' hW'; obtain ⟨hwc, -⟩ := bcell hW'; simp only [execOp, st_eval, st_const, st_func, upd, Nat.reduceLT, Nat.reduceEqDiff, if_true, if_false, ite_true, ite_false, reduceIte, iq12, iq8, List.map_toArray, List.map_cons, List.map_nil]; (try go_simp); try rfl
    apply mixS_take (i := 153) rfl (by decide) (want_st (j := 21) (i := 150) rfl o_21 rfl (by decide) (by first | rfl | simp [upd, *]))
    case hy => intro W' hW'; obtain ⟨hwc, -⟩ := bcell hW'; simp only [execOp, st_eval, st_const, st_func, upd, Nat.reduceLT, Nat.reduceEqDiff, if_true, if_false, ite_true, ite_false, reduceIte, iq12, iq8, List.map_toArray, List.map_cons, List.map_nil]; (try go_simp); try rfl
    apply mixS_take (i := 154) rfl (by decide) (want_st (j := 21) (i := 150) rfl o_21 rfl (by decide) (by first | rfl | simp [upd, *]))
    case hy => intro W' hW'; obtain ⟨hwc, -⟩ := bcell hW'; simp only [execOp, st_eval, st_const, st_func, upd, Nat.reduceLT, Nat.reduceEqDiff, if_true, if_false, ite_true, ite_false, reduceIte, iq12, iq8, List.map_toArray, List.map_cons, List.map_nil]; (try go_simp); try rfl
    apply mixS_take (i := 155) rfl (by decide) (want_st (j := 21) (i := 150) rfl o_21 rfl (by decide) (by first | rfl | simp [upd, *]))
    case hy => intro W' hW'; obtain ⟨hwc, -⟩ := bcell hW'; simp only [execOp, st_eval, st_const, st_func, upd, Nat.reduceLT, Nat.reduceEqDiff, if_true, if_false, ite_true, ite_false, reduceIte, iq12, iq8, List.map_toArray, List.map_cons, List.map_nil]; (try go_simp); try rfl
    apply mixS_take (i := 156) rfl (by decide) (want_st (j := 21) (i := 150) rfl o_21 rfl (by decide) (by first | rfl | simp [upd, *]))
    case hy => intro W' hW'; obtain ⟨hwc, -⟩ := bcell hW'; simp only [execOp, st_eval, st_const, st_func, upd, Nat.reduceLT, Nat.reduceEqDiff, if_true, if_false, ite_true, ite_false, reduceIte, iq12, iq8, List.map_toArray, List.map_cons, List.map_nil]; (try go_simp); try rfl
    apply mixS_take (i := 157) rfl (by decide) (want_st (j := 21) (i := 150) rfl o_21 rfl (by decide) (by first | rfl | simp [upd, *]))
    case hy => intro W' hW'; obtain ⟨hwc, -⟩ := bcell hW'; simp only [execOp, st_eval, st_const, st_func, upd, Nat.reduceLT, Nat.reduceEqDiff, if_true, if_false, ite_true, ite_false, reduceIte, iq12, iq8, List.map_toArray, List.map_cons, List.map_nil]; (try go_simp); try rfl
    apply mixS_take (i := 158) rfl (by decide) (want_st (j := 21) (i := 150) rfl o_21 rfl (by decide) (by first | rfl | simp [upd, *]))
    case hy => intro W' hW'; obtain ⟨hwc, -⟩ := bcell hW'; simp only [execOp, st_eval, st_const, st_func, upd, Nat.reduceLT, Nat.reduceEqDiff, if_true, if_false, ite_true, ite_false, reduceIte, iq12, iq8, List.map_toArray, List.map_cons, List.map_nil]; (try go_simp); try rfl
    apply mixS_take (i := 159) rfl (by decide) (want_st (j := 21) (i := 150) rfl o_21 rfl (by decide) (by first | rfl | simp [upd, *]))
    case hy => intro W' hW'; obtain ⟨hwc, -⟩ := bcell hW'; simp only [execOp, st_eval, st_const, st_func, upd, Nat.reduceLT, Nat.reduceEqDiff, if_true, if_false, ite_true, ite_false, reduceIte, iq12, iq8, List.map_toArray, List.map_cons, List.map_nil]; (try go_simp); try rfl
    apply mixS_take (i := 160) rfl (by decide) (want_none rfl)
    case hy => intro W' hW'; obtain ⟨hwc, -⟩ := bcell hW'; simp only [execOp, st_eval, st_const, st_func, upd, Nat.reduceLT, Nat.reduceEqDiff, if_true, if_false, ite_true, ite_false, reduceIte, iq12, iq8, List.map_toArray, List.map_cons, List.map_nil]; (try go_simp); try rfl
    apply mixS_take (i := 161) rfl (by decide) (want_none rfl)
    case hy => intro W' hW'; obtain ⟨hwc, -⟩ := bcell hW'; simp only [execOp, st_eval, st_const, st_func, upd, Nat.reduceLT, Nat.reduceEqDiff, if_true, if_false, ite_true, ite_false, reduceIte, iq12, iq8, List.map_toArray, List.map_cons, List.map_nil]; (try go_simp); try rfl
    apply mixS_take (i := 162) rfl (by decide) (want_st (j := 32) (i := 161) rfl o_32 rfl (by decide) (by first | rfl | simp [upd, *]))
    case hy => intro W' hW'; obtain ⟨hwc, -⟩ := bcell hW'; simp only [execOp, st_eval, st_const, st_func, upd, Nat.reduceLT, Nat.reduceEqDiff, if_true, if_false, ite_true, ite_false, reduceIte, iq12, iq8, List.map_toArray, List.map_cons, List.map_nil]; (try go_simp); try rfl
    apply mixS_take (i := 163) rfl (by decide) (want_st (j := 32) (i := 161) rfl o_32 rfl (by decide) (by first | rfl | simp [upd, *]))
    case hy => intro W' hW'; obtain ⟨hwc, -⟩ := bcell hW'; simp only [execOp, st_eval, st_const, st_func, upd, Nat.reduceLT, Nat.reduceEqDiff, if_true, if_false, ite_true, ite_false, reduceIte, iq12, iq8, List.map_toArray, List.map_cons, List.map_nil]; (try go_simp); try rfl
    apply mixS_take (i := 164) rfl (by decide) (want_st (j := 32) (i := 161) rfl o_32 rfl (by decide) (by first | rfl | simp [upd, *]))
    case hy => intro W' hW'; obtain ⟨hwc, -⟩ := bcell hW'; simp only [execOp, st_eval, st_const, st_func, upd, Nat.reduceLT, Nat.reduceEqDiff, if_true, if_false, ite_true, ite_false, reduceIte, iq12, iq8, List.map_toArray, List.map_cons, List.map_nil]; (try go_simp); try rfl
    apply mixS_take (i := 165) rfl (by decide) (want_st (j := 32) (i := 161) rfl o_32 rfl (by decide) (by first | rfl | simp [upd, *]))
    case hy => intro W' hW'; obtain ⟨hwc, -⟩ := bcell hW'; simp only [execOp, st_eval, st_const, st_func, upd, Nat.reduceLT, Nat.reduceEqDiff, if_true, if_false, ite_true, ite_false, reduceIte, iq12, iq8, List.map_toArray, List.map_cons, List.map_nil]; (try go_simp); try rfl
    apply mixS_take (i := 166) rfl (by decide) (want_st (j := 32) (i := 161) rfl o_32 rfl (by decide) (by first | rfl | simp [upd, *]))
    case hy => intro W' hW'; obtain ⟨hwc, -⟩ := bcell hW'; simp only [execOp, st_eval, st_const, st_func, upd, Nat.reduceLT, Nat.reduceEqDiff, if_true, if_false, ite_true, ite_false, reduceIte, iq12, iq8, List.map_toArray, List.map_cons, List.map_nil]; (try go_simp); try rfl
    apply mixS_take (i := 167) rfl (by decide) (want_st (j := 32) (i := 161) rfl o_32 rfl (by decide) (by first | rfl | simp [upd, *]))
    case hy => intro W' hW'; obtain ⟨hwc, -⟩ := bcell hW'; simp only [execOp, st_eval, st_const, st_func, upd, Nat.reduceLT, Nat.reduceEqDiff, if_true, if_false, ite_true, ite_false, reduceIte, iq12, iq8, List.map_toArray, List.map_cons, List.map_nil]; (try go_simp); try rfl
    apply mixS_take (i := 168) rfl (by decide) (want_st (j := 32) (i := 161) rfl o_32 rfl (by decide) (by first | rfl | simp [upd, *]))
    case hy => intro W' hW'; obtain ⟨hwc, -⟩ := bcell hW'; simp only [execOp, st_eval, st_const, st_func, upd, Nat.reduceLT, Nat.reduceEqDiff, if_true, if_false, ite_true, ite_false, reduceIte, iq12, iq8, List.map_toArray, List.map_cons, List.map_nil]; (try go_simp); try rfl
    apply mixS_take (i := 169) rfl (by decide) (want_st (j := 32) (i := 161) rfl o_32 rfl (by decide) (by first | rfl | simp [upd, *]))
    case hy => intro W' hW'; obtain ⟨hwc, -⟩ := bcell hW'; simp only [execOp, st_eval, st_const, st_func, upd, Nat.reduceLT, Nat.reduceEqDiff, if_true, if_false, ite_true, ite_false, reduceIte, iq12, iq8, List.map_toArray, List.map_cons, List.map_nil]; (try go_simp); try rfl
    apply mixS_take (i := 170) rfl (by decide) (want_st (j := 32) (i := 161) rfl o_32 rfl (by decide) (by first | rfl | simp [upd, *]))
    case hy => intro W' hW'; obtain ⟨hwc, -⟩ := bcell hW'; simp only [execOp, st_eval, st_const, st_func, upd, Nat.reduceLT, Nat.reduceEqDiff, if_true, if_false, ite_true, ite_false, reduceIte, iq12, iq8, List.map_toArray, List.map_cons, List.map_nil]; (try go_simp); try rfl
    refine mix_nil (HK.out _ _ ?_)
    generalize hf9 : upd _ _ _ = f9
    have hlow : ∀ j, j < 129 ∨ 172 ≤ j → f9 j = f0 j := fun j hj => by rw [← hf9]; repeat (rw [upd_ne (by omega)])
    have hA := st_lit21 f9 _ (by rfl) (fun j hj => (hlow j hj).trans (HF0.out j))
    simp only [List.take_succ_cons, List.take_zero, List.drop_succ_cons, List.drop_zero, List.cons_append, List.nil_append] at hA
    rw [hA]
    have p161 := congrFun hf9 161
    simp [upd, undef] at p161
    have p170 := congrFun hf9 170
    simp [upd, undef] at p170
    rw [← p161, ← p170]
    clear hf9 hA hlow p161 p170
    go_wp2
    go_meet
    case rel => exact ⟨rfl, below_drewN (Below.refl _ _) _⟩
  case rest =>
    obtain ⟨rfl, hb8⟩ := hcut
    obtain ⟨w8, hw8⟩ : ∃ w8, w8 = wc := ⟨_, rfl⟩
    rw [← hw8] at hb8 ⊢
    clear hw8
    have H8' := Lib.hid (H8.out.below hb8.out)
    have H9' := Lib.hid (H9.out.below hb8.out)
    have HB8 := Lib.hid (below_trans HB7.out hb8.out)
    have HM8 := Lib.hid (bl_below HM7.out hb8.out)
    replace e6 := cell_below hb8.out e6
    have hlb8 := (Nat.lt_of_lt_of_le hlb hb8.out.size)
    clear m0 m1 m2 m3 m4 hlm c0 c1 c2 c4 e0 e5 hla hlb p1 p2 p2' p3 p4 x0 x1' x2 x3 x4 hl8
    obtain ⟨⟨m0, m1, m2, m3, m4⟩, -⟩ := blc5 HM8.out
    have hlm := bl_lt HM8.out
    clear hb8 H8 H9 HB7 HM7
    obtain ⟨g9, cap9, hu9⟩ := H9'.out.row (by omega)
    subst hu9
    obtain ⟨cur9, hcur9, -⟩ := H9'.out.open
    obtain ⟨bq, oq, q', hAq, hq', y0, y1⟩ := (Own.rd H9'.out).qa j hjl2
    cases hAq
    obtain rfl : q' = q := Option.some.inj (hq'.out.symm.trans HQ9.out)
    simp only [Nat.zero_add] at y0 y1
    have fz0 := bl_frozen hcur9 (j * 2)
    have fz1 := bl_frozen hcur9 (j * 2 + 1)
    have hlg := bl_lt hcur9
    have hmod : ∀ f : Acct → Acct, cs.all.modify j f = cs.all.set j (f q') := fun f => by
      apply List.ext_getElem?
      intro i
      rw [get_modify, List.getElem?_set]
      by_cases hji : j = i
      · subst hji
        rw [if_pos rfl, HQ9.out, if_pos rfl, if_pos hjl2]; rfl
      · rw [if_neg hji, if_neg hji]
    have HMOD := Lib.hid hmod
    have hall : (consS cs ⟨sa, se, snow, ⟨(j : Int), lfr, lto, lrd, m'.data⟩, sts⟩).all = (cs.all.set j (incA q')) := by
      rw [HC2.out]
      have hK := HKK.out
      rw [if_pos hK]; exact HMOD.out _
    have hsent : (consS cs ⟨sa, se, snow, ⟨(j : Int), lfr, lto, lrd, m'.data⟩, sts⟩).sent = cs.sent := by
      rw [HC2.out]
      have hK := HKK.out
      rw [if_pos hK]
    have HALL := Lib.hid hall
    have HSENT := Lib.hid hsent
    clear hall hsent hmod hq'
    have k4 : (sa.k == 4) = true := beq_iff_eq.2 HKK.out
    go_upto_region 32 with fail
    obtain ⟨w11, hw11⟩ : ∃ w11, w11 = w8.setCell ⟨g9, j * 2, none⟩ (.int .i64 (q'.i + 1)) := ⟨_, rfl⟩
    have K8 : Hid (Own w11 w3.heap.size 33 (.slice (some ⟨b8, o8, none⟩) cs.sent.length c8) cs.sent) := by show Own _ _ _ _ _; rw [hw11]; exact H8'.out.setCell (H8'.out.ne hcur9 (by decide)) _
    have K9 : Hid (Own w11 w3.heap.size 57 (.slice (some ⟨g9, 0, none⟩) cs.all.length cap9) (cs.all.set j (incA q'))) := by show Own _ _ _ _ _; rw [hw11]; exact Own.store H9'.out j 0 q' (incA q') _ (by decide) HQ9.out rfl
    have KM : Hid (w11.heap[wr.heap.size]? = some (.cells #[.int .i64 (j : Int), .int .i64 lfr, .int .i64 lto, .int .i64 lrd, .string m'.data] 33 (0, 0))) := by show _ = _; rw [hw11]; refine bl_far HM8.out ?_ _; exact fun h => H9'.out.ne HM8.out (by decide) (congrArg some h.symm)
    have KB : Hid (Below w3.heap.size w3 w11) := by show Below _ _ _; rw [hw11]; exact HB8.out.setCell (H9'.out.lt g9 rfl).1 _
    rw [← hw11]
    have hgl : g9 < w11.heap.size := by rw [hw11]; simpa [World.setCell] using hlg
    clear hw11 hcur9 y0 y1 fz0 fz1 hlg m0 m1 m2 m3 m4 hlm
    obtain ⟨bq2, oq2, q2, hAq2, hq2, y0, y1⟩ := (Own.rd K9.out).qa j (by simpa using hjl2)
    cases hAq2
    obtain rfl : q2 = incA q' := Option.some.inj (hq2.out.symm.trans (List.getElem?_set_self hjl2))
    simp only [Nat.zero_add, incA] at y0 y1
    have hle : (incA q').o ≤ (incA q').i := by
      obtain ⟨e4, e5, e6⟩ := HQK.out
      have hK := HKK.out
      have hv := e4 hK
      simp only [incA]
      omega
    have d2 : decide ((incA q').i < (incA q').o) = false := decide_eq_false (by omega)
    simp only [incA] at d2
    skip
    obtain ⟨⟨m0, m1, m2, m3, m4⟩, -⟩ := blc5 KM.out
    have hlm := bl_lt KM.out
    clear hle hq2
    go_quiet (fail)
    go_wp2
    refine ⟨⟨_, st_of 316 (by rfl), k + 1, _, _, by omega, rfl, rfl, rfl, rfl, rfl, by show _ = Value.int .i64 _; go_num, by show Own _ _ _ _ _; rw [HNX.out, HSENT.out]; exact K8.out.drewN _, by show Own _ _ _ _ _; rw [HNX.out, HALL.out]; exact K9.out.drewN _, below_drewN KB.out _⟩, ?_⟩
    show xs.length - (intOf (.int .i64 ((k : Int) + 1))).toNat < xs.length - k
    simp [intOf]; omega
set_option maxHeartbeats 8000000 in
set_option maxRecDepth 100000 in
theorem cons_deliver (xs : List Ac) (A : Option Addr) (c : Nat) (A6 : Option Addr) (c6 g5 : Nat) (S : List Sn) (rs : List SnR) (x0 : Nt) (w3 wr : World) (f : Nat → Value) (Q0 : Exit → Act → World → Prop) (k : Nat) (u8 u9 : Value) (hlx : xs.length ≤ 300) (hlk : k < xs.length)
    (HR3 : Hid (Rd w3 A xs)) (HRL : Hid (Rd w3 A6 rs)) (HSS : Hid (Sns w3 rs S)) (HRS : Hid (rs.length = xs.length))
    (HCA : Hid (∀ k, k ≤ xs.length → Ok (playX x0 (xs.take k)) ∧ ConsI k (playX x0 (xs.take k)) (consF ⟨[], []⟩ (S.take k)))) (HSG : Hid (∀ k d, xs[k]? = some d → S[k]? = some (doSR (playX x0 (xs.take k)) d)))
    (h1 : f 1 = .slice A xs.length c) (h5 : f 5 = .pointer (some ⟨g5, 0, none⟩)) (h6 : f 6 = .slice A6 xs.length c6) (h8 : f 8 = u8) (h9 : f 9 = u9) (h10 : f 10 = .int .i64 (k : Int))
    (hO8 : Hid (Own wr w3.heap.size 33 u8 (consF ⟨[], []⟩ (S.take k)).sent)) (hO9 : Hid (Own wr w3.heap.size 57 u9 (consF ⟨[], []⟩ (S.take k)).all)) (hB : Hid (Below w3.heap.size w3 wr))
    (hQ0 : ∀ (d : Option Tmp) (v : Value) c a w, Q0 (.panic c) (a.put d v) w → Q0 (.panic c) a w)
    (hkind : Hid (∀ s, S[k]? = some s → s.e = 0 ∧ s.a.k = 2)) :
    consBody.wp Try.prog (Exit.then (fun a' w' => consI xs A c A6 c6 g5 S w3 a' w' ∧ consMu xs a' w' < consMu xs (st 316 f) wr) Q0) (st 316 f) wr := by
  conv => arg 2; whnf
  have hmu : Hid (consMu xs (st 316 f) wr = xs.length - k) := by
    show _ = _
    unfold consMu
    rw [st_getD (by decide), h10]; rfl
  rw [hmu.out]
  rw [st_all4, h1, h5, h6, h8, h9, h10]
  clear h1 h5 h6 h8 h9 h10
  obtain ⟨ba, oa, d, hAeq, hd, c0, c1, c2, c3, c4⟩ := (HR3.out.below hB.out).ac k hlk
  subst hAeq
  obtain ⟨bb, off, s, ta, tc, hAeq, hs, -, e0, e1, e2, e3, e4, e5, e6, e7, e8, e9, e10, e11, -⟩ := (HRL.out.below hB.out).sn (HSS.out.below hB.out) k (by rw [HRS.out]; exact hlk)
  subst hAeq
  have hba : ba < wr.heap.size := World.block_lt_of_cell? wr _ c0
  have hbt : bb < wr.heap.size := World.block_lt_of_cell? wr _ e0
  obtain ⟨hoy, hcy⟩ := HCA.out k (by omega)
  have hsy : s = doSR (playX x0 (xs.take k)) d := Option.some.inj (hs.out.symm.trans (HSG.out k d hd.out))
  rw [doSR_ok hoy] at hsy
  have hstep := cons_step hoy hcy d
  rw [← hsy] at hstep
  have hsa : s.a = d := by rw [hsy]; exact doS_act _ _
  have hnx : consF ⟨[], []⟩ (S.take (k + 1)) = consS (consF ⟨[], []⟩ (S.take k)) s := by rw [List.take_add_one, hs.out]; exact consF_snoc _ _ _
  obtain ⟨cs, hcs⟩ : ∃ c, c = consF ⟨[], []⟩ (S.take k) := ⟨_, rfl⟩
  rw [← hcs] at hO8 hO9 hcy hstep hnx
  have HNX := Lib.hid hnx
  have HCI := Lib.hid hcy
  have HOK := Lib.hid hstep.1
  have hkd := hkind.out s hs.out
  clear hnx hcs hcy hstep hoy hsy hs hd hkind
  obtain ⟨sa, se, snow, ⟨lid, lfr, lto, lrd, ldt⟩, sts⟩ := s
  simp only at hsa e0 e1 e2 e3 e4 e5 e6 e7 e8 e9 e10 e11
  subst hsa
  go_upto_region 15 with fail
  obtain ⟨w7, hw7⟩ : ∃ w7, w7 = wr.alloc (.cells #[.int .i64 lid, .int .i64 lfr, .int .i64 lto, .int .i64 lrd, .string ldt] 33) := ⟨_, rfl⟩
  have hb7 : Below wr.heap.size wr w7 := by rw [hw7]; exact below_alloc (Below.refl _ _) _
  have hm7 : w7.heap[wr.heap.size]? = some (.cells #[.int .i64 lid, .int .i64 lfr, .int .i64 lto, .int .i64 lrd, .string ldt] 33 (0, 0)) := by rw [hw7]; exact bl_new _ _
  rw [← hw7]
  clear hw7
  have H8 := Lib.hid (hO8.out.below hb7)
  have H9 := Lib.hid (hO9.out.below hb7)
  have HB7 := Lib.hid (below_trans hB.out hb7)
  have HM7 := Lib.hid hm7
  have hla := (Nat.lt_of_lt_of_le hba hb7.size)
  have hlb := (Nat.lt_of_lt_of_le hbt hb7.size)
  replace c0 := cell_below hb7 c0
  replace c1 := cell_below hb7 c1
  replace c2 := cell_below hb7 c2
  replace c4 := cell_below hb7 c4
  replace e0 := cell_below hb7 e0
  replace e5 := cell_below hb7 e5
  replace e6 := cell_below hb7 e6
  obtain ⟨⟨m0, m1, m2, m3, m4⟩, -⟩ := blc5 hm7
  have hlm := bl_lt hm7
  clear hb7 hm7 hO8 hO9 hB hba hbt e1 e2 e3 e4 e7 e8 e9 e10 e11 c3
  simp only at hkd
  obtain ⟨hk0, hkK⟩ := hkd
  have t1 : (se != 0) = false := bne_eq_false_iff_eq.2 hk0
  have t2 : decide (sa.k < 1) = false := decide_eq_false (by omega)
  have t3 : decide (5 < sa.k) = false := decide_eq_false (by omega)
  have hk1 : 1 ≤ sa.k := by omega
  have hk5 : sa.k ≤ 5 := by omega
  have hok := HOK.out hk0 hk1 hk5
  have HKK := Lib.hid hkK
  clear hk0 hkK
  have HCS : Hid (consS cs ⟨sa, se, snow, ⟨lid, lfr, lto, lrd, ldt⟩, sts⟩ = if sa.k = 1 then ⟨cs.sent ++ [⟨lid, lfr, lto, lrd, ldt⟩], cs.all ++ [⟨1, 0⟩]⟩ else if sa.k = 4 then ⟨cs.sent, cs.all.modify lid.toNat incA⟩ else if sa.k = 2 ∨ sa.k = 3 then ⟨cs.sent, cs.all.modify lid.toNat outA⟩ else cs) := by
    show _ = _
    unfold consS
    rw [if_neg (by have := bne_eq_false_iff_eq.1 t1; simp only; omega)]
  have HLA : Hid (cs.all.length = cs.sent.length) := HCI.out.la
  have HLS : Hid (cs.sent.length ≤ 300) := Nat.le_trans HCI.out.ln (by omega)
  clear HOK
  simp only at hok
  have q1 : (sa.k == 1) = false := beq_eq_false_iff_ne.2 (by have := HKK.out; omega)
  have hne1 : ¬ sa.k = 1 := beq_eq_false_iff_ne.1 q1
  have hcs2 := HCS.out.trans (if_neg hne1)
  obtain ⟨g1, -⟩ | ⟨g1, g2, g3, ⟨m, g4, g5, g6, g7⟩, g8, q, g9, g10, g11, g12, g13⟩ := hok
  · exact absurd g1 hne1
  obtain ⟨j, hj⟩ : ∃ j : Nat, lid = j := ⟨lid.toNat, by omega⟩
  subst hj
  rw [Int.toNat_natCast] at g4 g9 hcs2
  have hjl : j < cs.sent.length := by omega
  have hjl2 : j < cs.all.length := by rw [HLA.out]; exact hjl
  subst g7
  have p1 : decide ((j : Int) < 0) = false := decide_eq_false (by omega)
  have p2 : decide (cs.sent.length ≤ j) = false := decide_eq_false (by omega)
  have p2' : decide ((cs.sent.length : Int) ≤ (j : Int)) = false := decide_eq_false (by omega)
  have p3 : (lfr != m.fr) = false := bne_eq_false_iff_eq.2 g5
  have p4 : (lto != m.to) = false := bne_eq_false_iff_eq.2 g6
  have hq0 : 0 ≤ q.o := g10
  have hq1 : q.o ≤ q.i + 1 := by
    obtain h | h | h : sa.k = 4 ∨ sa.k = 5 ∨ (sa.k = 2 ∨ sa.k = 3) := by omega
    · exact g11 h
    · have := g12 h; omega
    · have := g13 h; omega
  have hq2 : q.i ≤ 300 := by have := (HCI.out.bd j q g9).2; omega
  have HC2 := Lib.hid hcs2
  have HM4 := Lib.hid g4
  have HQ9 := Lib.hid g9
  have HQK := Lib.hid (And.intro g11 (And.intro g12 g13))
  have HRD := Lib.hid g8
  clear hcs2 g1 g2 g3 g4 g5 g6 g8 g9 g10 g11 g12 g13 hne1 HCS
  obtain ⟨A8, c8, hu8, -, hR8⟩ := H8.out.slice
  subst hu8
  obtain ⟨b8, o8, m', hA8, hm', x0, x1', x2, x3, x4⟩ := hR8.lt j hjl
  subst hA8
  obtain rfl : m' = m := Option.some.inj (hm'.out.symm.trans HM4.out)
  have hl8 : b8 < w7.heap.size := World.block_lt_of_cell? w7 _ x0
  clear hR8 hm'
  go_upto_region 21 with fail
  go_cut [171] from 129 to 171 (fun s wx => s = .bool false ∧ Hid (Below w7.heap.size w7 wx))
  case first =>
    refine wp_st 316 (by rfl) fun f0 hf0 => ?_
    have iq12 : f0 12 = .pointer (some ⟨wr.heap.size, 0, none⟩) := (hf0 12).trans rfl
    have iq8 : f0 8 = .slice (some ⟨b8, o8, none⟩) cs.sent.length c8 := (hf0 8).trans rfl
    have HF0 := Lib.hid hf0
    clear hf0
    refine wp_mixW [1, 2, 3, 10, 5, 8, 7, 8, 9, 10, 21, 12, 19, 16, 15, 16, 17, 18, 19, 20, 21, 32, 23, 30, 27, 26, 27, 28, 29, 30, 31, 32, 42, 34, 41, 38, 37, 38, 39, 40, 41, 42] [(0, true), (1, true), (2, true), (3, true), (4, true), (5, true), (6, true), (7, true), (8, true), (9, true), (10, true), (11, true), (12, true), (13, true), (14, true), (15, true), (16, true), (17, true), (18, true), (19, true), (20, true), (21, true), (22, true), (23, true), (24, true), (25, true), (26, true), (27, true), (28, true), (29, true), (30, true), (31, true), (32, true), (33, true), (34, true), (35, true), (36, true), (37, true), (38, true), (39, true), (40, true), (41, true)] 42
      (fun w' => Below w7.heap.size w7 w')
      (by kernel_rfl) (by kernel_rfl) (by kernel_rfl) (by kernel_rfl) (by kernel_rfl) (fun d v c a w h => hQ0 d v c a w h) (Below.refl _ _).drew ?_
    intro ops K Q1 hops HK
    have o_3 := hops.out 3 _ rfl
    have o_10 := hops.out 10 _ rfl
    have o_21 := hops.out 21 _ rfl
    have o_32 := hops.out 32 _ rfl
    clear hops
    simp only [pick, List.map_cons, List.map_nil, List.getD_cons_zero, List.getD_cons_succ, List.drop_succ_cons, List.drop_zero]
    apply mixS_take (i := 129) rfl (by decide) (want_none rfl)
    case hy => intro W' hW'; obtain ⟨hwc, -⟩ := bcell hW'; simp only [execOp, st_eval, st_const, st_func, upd, Nat.reduceLT, Nat.reduceEqDiff, if_true, if_false, ite_true, ite_false, reduceIte, iq12, iq8, List.map_toArray, List.map_cons, List.map_nil]; (try go_simp); try rfl
    apply mixS_take (i := 130) rfl (by decide) (want_none rfl)
    case hy => intro W' hW'; obtain ⟨hwc, -⟩ := bcell hW'; simp only [execOp, st_eval, st_const, st_func, upd, Nat.reduceLT, Nat.reduceEqDiff, if_true, if_false, ite_true, ite_false, reduceIte, iq12, iq8, List.map_toArray, List.map_cons, List.map_nil]; (try go_simp); try rfl
    apply mixS_take (i := 131) rfl (by decide) (want_none rfl)
    case hy => intro W' hW'; obtain ⟨hwc, -⟩ := bcell hW'; simp only [execOp, st_eval, st_const, st_func, upd, Nat.reduceLT, Nat.reduceEqDiff, if_true, if_false, ite_true, ite_false, reduceIte, iq12, iq8, List.map_toArray, List.map_cons, List.map_nil]; (try go_simp); try rfl
    apply mixS_take (i := 132) rfl (by decide) (want_none rfl)
    case hy => intro W' hW'; obtain ⟨hwc, -⟩ := bcell hW'; simp only [execOp, st_eval, st_const, st_func, upd, Nat.reduceLT, Nat.reduceEqDiff, if_true, if_false, ite_true, ite_false, reduceIte, iq12, iq8, List.map_toArray, List.map_cons, List.map_nil]; (try go_simp); try rfl
    apply mixS_take (i := 133) rfl (by decide) (want_st (j := 3) (i := 132) rfl o_3 rfl (by decide) (by first | rfl | simp [upd, *]))
    case hy => intro W' hW'; obtain ⟨hwc, -⟩ := bcell hW'; simp only [execOp, st_eval, st_const, st_func, upd, Nat.reduceLT, Nat.reduceEqDiff, if_true, if_false, ite_true, ite_false, reduceIte, iq12, iq8, List.map_toArray, List.map_cons, List.map_nil]; (try go_simp); try rfl
    apply mixS_take (i := 134) rfl (by decide) (want_st (j := 3) (i := 132) rfl o_3 rfl (by decide) (by first | rfl | simp [upd, *]))
    case hy => intro W' hW'; obtain ⟨hwc, -⟩ := bcell hW'; simp only [execOp, st_eval, st_const, st_func, upd, Nat.reduceLT, Nat.reduceEqDiff, if_true, if_false, ite_true, ite_false, reduceIte, iq12, iq8, List.map_toArray, List.map_cons, List.map_nil]; (try go_simp); try rfl
    apply mixS_take (i := 135) rfl (by decide) (want_st (j := 3) (i := 132) rfl o_3 rfl (by decide) (by first | rfl | simp [upd, *]))
    case hy => intro W' hW'; obtain ⟨hwc, -⟩ := bcell hW'; simp only [execOp, st_eval, st_const, st_func, upd, Nat.reduceLT, Nat.reduceEqDiff, if_true, if_false, ite_true, ite_false, reduceIte, iq12, iq8, List.map_toArray, List.map_cons, List.map_nil]; (try go_simp); try rfl
    apply mixS_take (i := 136) rfl (by decide) (want_st (j := 3) (i := 132) rfl o_3 rfl (by decide) (by first | rfl | simp [upd, *]))
    case hy => intro W' hW'; obtain ⟨hwc, -⟩ := bcell hW'; simp only [execOp, st_eval, st_const, st_func, upd, Nat.reduceLT, Nat.reduceEqDiff, if_true, if_false, ite_true, ite_false, reduceIte, iq12, iq8, List.map_toArray, List.map_cons, List.map_nil]; (try go_simp); try rfl
    apply mixS_take (i := 137) rfl (by decide) (want_st (j := 3) (i := 132) rfl o_3 rfl (by decide) (by first | rfl | simp [upd, *]))
    case hy => intro W' hW'; obtain ⟨hwc, -⟩ := bcell hW'; simp only [execOp, st_eval, st_const, st_func, upd, Nat.reduceLT, Nat.reduceEqDiff, if_true, if_false, ite_true, ite_false, reduceIte, iq12, iq8, List.map_toArray, List.map_cons, List.map_nil]; (try go_simp); try rfl
    apply mixS_take (i := 138) rfl (by decide) (want_none rfl)
    case hy => intro W' hW'; obtain ⟨hwc, -⟩ := bcell hW'; simp only [execOp, st_eval, st_const, st_func, upd, Nat.reduceLT, Nat.reduceEqDiff, if_true, if_false, ite_true, ite_false, reduceIte, iq12, iq8, List.map_toArray, List.map_cons, List.map_nil]; (try go_simp); try rfl
    apply mixS_take (i := 139) rfl (by decide) (want_none rfl)
    case hy => intro W' hW'; obtain ⟨hwc, -⟩ := bcell hW'; simp only [execOp, st_eval, st_const, st_func, upd, Nat.reduceLT, Nat.reduceEqDiff, if_true, if_false, ite_true, ite_false, reduceIte, iq12, iq8, List.map_toArray, List.map_cons, List.map_nil]; (try go_simp); try rfl
    apply mixS_take (i := 140) rfl (by decide) (want_st (j := 10) (i := 139) rfl o_10 rfl (by decide) (by first | rfl | simp [upd, *]))
    case hy => intro W' hW'; obtain ⟨hwc, -⟩ := bcell hW'; simp only [execOp, st_eval, st_const, st_func, upd, Nat.reduceLT, Nat.reduceEqDiff, if_true, if_false, ite_true, ite_false, reduceIte, iq12, iq8, List.map_toArray, List.map_cons, List.map_nil]; (try go_simp); try rfl
    apply mixS_take (i := 141) rfl (by decide) (want_st (j := 10) (i := 139) rfl o_10 rfl (by decide) (by first | rfl | simp [upd, *]))
    case hy => intro W' hW'; obtain ⟨hwc, -⟩ := bcell hW'; simp only [execOp, st_eval, st_const, st_func, upd, Nat.reduceLT, Nat.reduceEqDiff, if_true, if_false, ite_true, ite_false, reduceIte, iq12, iq8, List.map_toArray, List.map_cons, List.map_nil]; (try go_simp); try rfl
    apply mixS_take (i := 142) rfl (by decide) (want_st (j := 10) (i := 139) rfl o_10 rfl (by decide) (by first | rfl | simp [upd, *]))
    case hy => intro W' hW'; obtain ⟨hwc, -⟩ := bcell hW'; simp only [execOp, st_eval, st_const, st_func, upd, Nat.reduceLT, Nat.reduceEqDiff, if_true, if_false, ite_true, ite_false, reduceIte, iq12, iq8, List.map_toArray, List.map_cons, List.map_nil]; (try go_simp); try rfl
    apply mixS_take (i := 143) rfl (by decide) (want_st (j := 10) (i := 139) rfl o_10 rfl (by decide) (by first | rfl | simp [upd, *]))
    case hy => intro W' hW'; obtain ⟨hwc, -⟩ := bcell hW'; simp only [execOp, st_eval, st_const, st_func, upd, Nat.reduceLT, Nat.reduceEqDiff, if_true, if_false, ite_true, ite_false, reduceIte, iq12, iq8, List.map_toArray, List.map_cons, List.map_nil]; (try go_simp); try rfl
    apply mixS_take (i := 144) rfl (by decide) (want_st (j := 10) (i := 139) rfl o_10 rfl (by decide) (by first | rfl | simp [upd, *]))
    case hy => intro W' hW'; obtain ⟨hwc, -⟩ := bcell hW'; simp only [execOp, st_eval, st_const, st_func, upd, Nat.reduceLT, Nat.reduceEqDiff, if_true, if_false, ite_true, ite_false, reduceIte, iq12, iq8, List.map_toArray, List.map_cons, List.map_nil]; (try go_simp); try rfl
    apply mixS_take (i := 145) rfl (by decide) (want_st (j := 10) (i := 139) rfl o_10 rfl (by decide) (by first | rfl | simp [upd, *]))
    case hy => intro W' hW'; obtain ⟨hwc, -⟩ := bcell hW'; simp only [execOp, st_eval, st_const, st_func, upd, Nat.reduceLT, Nat.reduceEqDiff, if_true, if_false, ite_true, ite_false, reduceIte, iq12, iq8, List.map_toArray, List.map_cons, List.map_nil]; (try go_simp); try rfl
    apply mixS_take (i := 146) rfl (by decide) (want_st (j := 10) (i := 139) rfl o_10 rfl (by decide) (by first | rfl | simp [upd, *]))
    case hy => intro W' hW'; obtain ⟨hwc, -⟩ := bcell hW'; simp only [execOp, st_eval, st_const, st_func, upd, Nat.reduceLT, Nat.reduceEqDiff, if_true, if_false, ite_true, ite_false, reduceIte, iq12, iq8, List.map_toArray, List.map_cons, List.map_nil]; (try go_simp); try rfl
    apply mixS_take (i := 147) rfl (by decide) (want_st (j := 10) (i := 139) rfl o_10 rfl (by decide) (by first | rfl | simp [upd, *]))
    case hy => intro W' hW'; obtain ⟨hwc, -⟩ := bcell hW'; simp only [execOp, st_eval, st_const, st_func, upd, Nat.reduceLT, Nat.reduceEqDiff, if_true, if_false, ite_true, ite_false, reduceIte, iq12, iq8, List.map_toArray, List.map_cons, List.map_nil]; (try go_simp); try rfl
    apply mixS_take (i := 148) rfl (by decide) (want_st (j := 10) (i := 139) rfl o_10 rfl (by decide) (by first | rfl | simp [upd, *]))
    case hy => intro W' hW'; obtain ⟨hwc, -⟩ := bcell hW'; simp only [execOp, st_eval, st_const, st_func, upd, Nat.reduceLT, Nat.reduceEqDiff, if_true, if_false, ite_true, ite_false, reduceIte, iq12, iq8, List.map_toArray, List.map_cons, List.map_nil]; (try go_simp); try rfl
    apply mixS_take (i := 149) rfl (by decide) (want_none rfl)
    case hy => intro W' hW'; obtain ⟨hwc, -⟩ := bcell hW'; simp only [execOp, st_eval, st_const, st_func, upd, Nat.reduceLT, Nat.reduceEqDiff, if_true, if_false, ite_true, ite_false, reduceIte, iq12, iq8, List.map_toArray, List.map_cons, List.map_nil]; (try go_simp); try rfl
    apply mixS_take (i := 150) rfl (by decide) (want_none rfl)
    case hy => intro W' hW'; obtain ⟨hwc, -⟩ := bcell hW'; simp only [execOp, st_eval, st_const, st_func, upd, Nat.reduceLT, Nat.reduceEqDiff, if_true, if_false, ite_true, ite_false, reduceIte, iq12, iq8, List.map_toArray, List.map_cons, List.map_nil]; (try go_simp); try rfl
    apply mixS_take (i := 151) rfl (by decide) (want_st (j := 21) (i := 150) rfl o_21 rfl (by decide) (by first | rfl | simp [upd, *]))
    case hy => intro W' hW'; obtain ⟨hwc, -⟩ := bcell hW'; simp only [execOp, st_eval, st_const, st_func, upd, Nat.reduceLT, Nat.reduceEqDiff, if_true, if_false, ite_true, ite_false, reduceIte, iq12, iq8, List.map_toArray, List.map_cons, List.map_nil]; (try go_simp); try rfl
    apply mixS_take (i := 152) rfl (by decide) (want_st (j := 21) (i := 150) rfl o_21 rfl (by decide) (by first | rfl | simp [upd, *]))
    case hy => intro W' hW'; obtain ⟨hwc, -⟩ := bcell hW'; simp only [execOp, st_eval, st_const, st_func, upd, Nat.reduceLT, Nat.reduceEqDiff, if_true, if_false, ite_true, ite_false, reduceIte, iq12, iq8, List.map_toArray, List.map_cons, List.map_nil]; (try go_simp); try rfl
    apply mixS_take (i := 153) rfl (by decide) (want_st (j := 21) (i := 150) rfl o_21 rfl (by decide) (by first | rfl | simp [upd, *]))
    case hy => intro W' hW'; obtain ⟨hwc, -⟩ := bcell hW'; simp only [execOp, st_eval, st_const, st_func, upd, Nat.reduceLT, Nat.reduceEqDiff, if_true, if_false, ite_true, ite_false, reduceIte, iq12, iq8, List.map_toArray, List.map_cons, List.map_nil]; (try go_simp); try rfl
    apply mixS_take (i := 154) rfl (by decide) (want_st (j := 21) (i := 150) rfl o_21 rfl (by decide) (by first | rfl | simp [upd, *]))
    case hy => intro W' hW'; obtain ⟨hwc, -⟩ := bcell hW'; simp only [execOp, st_eval, st_const, st_func, upd, Nat.reduceLT, Nat.reduceEqDiff, if_true, if_false, ite_true, ite_false, reduceIte, iq12, iq8, List.map_toArray, List.map_cons, List.map_nil]; (try go_simp); try rfl
    apply mixS_take (i := 155) rfl (by decide) (want_st (j := 21) (i := 150) rfl o_21 rfl (by decide) (by first | rfl | simp [upd, *]))
    case hy => intro W' hW'; obtain ⟨hwc, -⟩ := bcell hW'; simp only [execOp, st_eval, st_const, st_func, upd, Nat.reduceLT, Nat.reduceEqDiff, if_true, if_false, ite_true, ite_false, reduceIte, iq12, iq8, List.map_toArray, List.map_cons, List.map_nil]; (try go_simp); try rfl
    apply mixS_take (i := 156) rfl (by decide) (want_st (j := 21) (i := 150) rfl o_21 rfl (by decide) (by first | rfl | simp [upd, *]))
    case hy => intro W' hW'; obtain ⟨hwc, -⟩ := bcell hW'; simp only [execOp, st_eval, st_const, st_func, upd, Nat.reduceLT, Nat.reduceEqDiff, if_true, if_false, ite_true, ite_false, reduceIte, iq12, iq8, List.map_toArray, List.map_cons, List.map_nil]; (try go_simp); try rfl
    apply mixS_take (i := 157) rfl (by decide) (want_st (j := 21) (i := 150) rfl o_21 rfl (by decide) (by first | rfl | simp [upd, *]))
    case hy => intro W' hW'; obtain ⟨hwc, -⟩ := bcell hW'; simp only [execOp, st_eval, st_const, st_func, upd, Nat.reduceLT, Nat.reduceEqDiff, if_true, if_false, ite_true, ite_false, reduceIte, iq12, iq8, List.map_toArray, List.map_cons, List.map_nil]; (try go_simp); try rfl
    apply mixS_take (i := 158) rfl (by decide) (want_st (j := 21) (i := 150) rfl o_21 rfl (by decide) (by first | rfl | simp [upd, *]))
    case hy => intro W' hW'; obtain ⟨hwc, -⟩ := bcell hW'; simp only [execOp, st_eval, st_const, st_func, upd, Nat.reduceLT, Nat.reduceEqDiff, if_true, if_false, ite_true, ite_false, reduceIte, iq12, iq8, List.map_toArray, List.map_cons, List.map_nil]; (try go_simp); try rfl
    apply mixS_take (i := 159) rfl (by decide) (want_st (j := 21) (i := 150) rfl o_21 rfl (by decide) (by first | rfl | simp [upd, *]))
    case hy => intro W' hW'; obtain ⟨hwc, -⟩ := bcell hW'; simp only [execOp, st_eval, st_const, st_func, upd, Nat.reduceLT, Nat.reduceEqDiff, if_true, if_false, ite_true, ite_false, reduceIte, iq12, iq8, List.map_toArray, List.map_cons, List.map_nil]; (try go_simp); try rfl
    apply mixS_take (i := 160) rfl (by decide) (want_none rfl)
    case hy => intro W' hW'; obtain ⟨hwc, -⟩ := bcell hW'; simp only [execOp, st_eval, st_const, st_func, upd, Nat.reduceLT, Nat.reduceEqDiff, if_true, if_false, ite_true, ite_false, reduceIte, iq12, iq8, List.map_toArray, List.map_cons, List.map_nil]; (try go_simp); try rfl
    apply mixS_take (i := 161) rfl (by decide) (want_none rfl)
    case hy => intro W' hW'; obtain ⟨hwc, -⟩ := bcell hW'; simp only [execOp, st_eval, st_const, st_func, upd, Nat.reduceLT, Nat.reduceEqDiff, if_true, if_false, ite_true, ite_false, reduceIte, iq12, iq8, List.map_toArray, List.map_cons, List.map_nil]; (try go_simp); try rfl
    apply mixS_take (i := 162) rfl (by decide) (want_st (j := 32) (i := 161) rfl o_32 rfl (by decide) (by first | rfl | simp [upd, *]))
    case hy => intro W' hW'; obtain ⟨hwc, -⟩ := bcell hW'; simp only [execOp, st_eval, st_const, st_func, upd, Nat.reduceLT, Nat.reduceEqDiff, if_true, if_false, ite_true, ite_false, reduceIte, iq12, iq8, List.map_toArray, List.map_cons, List.map_nil]; (try go_simp); try rfl
    apply mixS_take (i := 163) rfl (by decide) (want_st (j := 32) (i := 161) rfl o_32 rfl (by decide) (by first | rfl | simp [upd, *]))
    case hy => intro W' hW'; obtain ⟨hwc, -⟩ := bcell hW'; simp only [execOp, st_eval, st_const, st_func, upd, Nat.reduceLT, Nat.reduceEqDiff, if_true, if_false, ite_true, ite_false, reduceIte, iq12, iq8, List.map_toArray, List.map_cons, List.map_nil]; (try go_simp); try rfl
    apply mixS_take (i := 164) rfl (by decide) (want_st (j := 32) (i := 161) rfl o_32 rfl (by decide) (by first | rfl | simp [upd, *]))
    case hy => intro W' hW'; obtain ⟨hwc, -⟩ := bcell hW'; simp only [execOp, st_eval, st_const, st_func, upd, Nat.reduceLT, Nat.reduceEqDiff, if_true, if_false, ite_true, ite_false, reduceIte, iq12, iq8, List.map_toArray, List.map_cons, List.map_nil]; (try go_simp); try rfl
    apply mixS_take (i := 165) rfl (by decide) (want_st (j := 32) (i := 161) rfl o_32 rfl (by decide) (by first | rfl | simp [upd, *]))
    case hy => intro W' hW'; obtain ⟨hwc, -⟩ := bcell hW'; simp only [execOp, st_eval, st_const, st_func, upd, Nat.reduceLT, Nat.reduceEqDiff, if_true, if_false, ite_true, ite_false, reduceIte, iq12, iq8, List.map_toArray, List.map_cons, List.map_nil]; (try go_simp); try rfl
    apply mixS_take (i := 166) rfl (by decide) (want_st (j := 32) (i := 161) rfl o_32 rfl (by decide) (by first | rfl | simp [upd, *]))
    case hy => intro W' hW'; obtain ⟨hwc, -⟩ := bcell hW'; simp only [execOp, st_eval, st_const, st_func, upd, Nat.reduceLT, Nat.reduceEqDiff, if_true, if_false, ite_true, ite_false, reduceIte, iq12, iq8, List.map_toArray, List.map_cons, List.map_nil]; (try go_simp); try rfl
    apply mixS_take (i := 167) rfl (by decide) (want_st (j := 32) (i := 161) rfl o_32 rfl (by decide) (by first | rfl | simp [upd, *]))
    case hy => intro W' hW'; obtain ⟨hwc, -⟩ := bcell hW'; simp only [execOp, st_eval, st_const, st_func, upd, Nat.reduceLT, Nat.reduceEqDiff, if_true, if_false, ite_true, ite_false, reduceIte, iq12, iq8, List.map_toArray, List.map_cons, List.map_nil]; (try go_simp); try rfl
    apply mixS_take (i := 168) rfl (by decide) (want_st (j := 32) (i := 161) rfl o_32 rfl (by decide) (by first | rfl | simp [upd, *]))
    case hy => intro W' hW'; obtain ⟨hwc, -⟩ := bcell hW'; simp only [execOp, st_eval, st_const, st_func, upd, Nat.reduceLT, Nat.reduceEqDiff, if_true, if_false, ite_true, ite_false, reduceIte, iq12, iq8, List.map_toArray, List.map_cons, List.map_nil]; (try go_simp); try rfl
    apply mixS_take (i := 169) rfl (by decide) (want_st (j := 32) (i := 161) rfl o_32 rfl (by decide) (by first | rfl | simp [upd, *]))
    case hy => intro W' hW'; obtain ⟨hwc, -⟩ := bcell hW'; simp only [execOp, st_eval, st_const, st_func, upd, Nat.reduceLT, Nat.reduceEqDiff, if_true, if_false, ite_true, ite_false, reduceIte, iq12, iq8, List.map_toArray, List.map_cons, List.map_nil]; (try go_simp); try rfl
    apply mixS_take (i := 170) rfl (by decide) (want_st (j := 32) (i := 161) rfl o_32 rfl (by decide) (by first | rfl | simp [upd, *]))
    case hy => intro W' hW'; obtain ⟨hwc, -⟩ := bcell hW'; simp only [execOp, st_eval, st_const, st_func, upd, Nat.reduceLT, Nat.reduceEqDiff, if_true, if_false, ite_true, ite_false, reduceIte, iq12, iq8, List.map_toArray, List.map_cons, List.map_nil]; (try go_simp); try rfl
    refine mix_nil (HK.out _ _ ?_)
    generalize hf9 : upd _ _ _ = f9
    have hlow : ∀ j, j < 129 ∨ 172 ≤ j → f9 j = f0 j := fun j hj => by rw [← hf9]; repeat (rw [upd_ne (by omega)])
    have hA := st_lit21 f9 _ (by rfl) (fun j hj => (hlow j hj).trans (HF0.out j))
    simp only [List.take_succ_cons, List.take_zero, List.drop_succ_cons, List.drop_zero, List.cons_append, List.nil_append] at hA
    rw [hA]
    have p161 := congrFun hf9 161
    simp [upd, undef] at p161
    have p170 := congrFun hf9 170
    simp [upd, undef] at p170
    rw [← p161, ← p170]
    clear hf9 hA hlow p161 p170
    go_wp2
    go_meet
    case rel => exact ⟨rfl, below_drewN (Below.refl _ _) _⟩
  case rest =>
    obtain ⟨rfl, hb8⟩ := hcut
    obtain ⟨w8, hw8⟩ : ∃ w8, w8 = wc := ⟨_, rfl⟩
    rw [← hw8] at hb8 ⊢
    clear hw8
    have H8' := Lib.hid (H8.out.below hb8.out)
    have H9' := Lib.hid (H9.out.below hb8.out)
    have HB8 := Lib.hid (below_trans HB7.out hb8.out)
    have HM8 := Lib.hid (bl_below HM7.out hb8.out)
    replace e6 := cell_below hb8.out e6
    have hlb8 := (Nat.lt_of_lt_of_le hlb hb8.out.size)
    clear m0 m1 m2 m3 m4 hlm c0 c1 c2 c4 e0 e5 hla hlb p1 p2 p2' p3 p4 x0 x1' x2 x3 x4 hl8
    obtain ⟨⟨m0, m1, m2, m3, m4⟩, -⟩ := blc5 HM8.out
    have hlm := bl_lt HM8.out
    clear hb8 H8 H9 HB7 HM7
    obtain ⟨g9, cap9, hu9⟩ := H9'.out.row (by omega)
    subst hu9
    obtain ⟨cur9, hcur9, -⟩ := H9'.out.open
    obtain ⟨bq, oq, q', hAq, hq', y0, y1⟩ := (Own.rd H9'.out).qa j hjl2
    cases hAq
    obtain rfl : q' = q := Option.some.inj (hq'.out.symm.trans HQ9.out)
    simp only [Nat.zero_add] at y0 y1
    have fz0 := bl_frozen hcur9 (j * 2)
    have fz1 := bl_frozen hcur9 (j * 2 + 1)
    have hlg := bl_lt hcur9
    have hmod : ∀ f : Acct → Acct, cs.all.modify j f = cs.all.set j (f q') := fun f => by
      apply List.ext_getElem?
      intro i
      rw [get_modify, List.getElem?_set]
      by_cases hji : j = i
      · subst hji
        rw [if_pos rfl, HQ9.out, if_pos rfl, if_pos hjl2]; rfl
      · rw [if_neg hji, if_neg hji]
    have HMOD := Lib.hid hmod
    have hall : (consS cs ⟨sa, se, snow, ⟨(j : Int), lfr, lto, lrd, m'.data⟩, sts⟩).all = (cs.all.set j (outA q')) := by
      rw [HC2.out]
      have hK := HKK.out
      rw [if_neg (by omega), if_pos (.inl hK)]; exact HMOD.out _
    have hsent : (consS cs ⟨sa, se, snow, ⟨(j : Int), lfr, lto, lrd, m'.data⟩, sts⟩).sent = cs.sent := by
      rw [HC2.out]
      have hK := HKK.out
      rw [if_neg (by omega), if_pos (.inl hK)]
    have HALL := Lib.hid hall
    have HSENT := Lib.hid hsent
    clear hall hsent hmod hq'
    have k4 : (sa.k == 4) = false := beq_eq_false_iff_ne.2 (by have := HKK.out; omega)
    have k2 : (sa.k == 2) = true := beq_iff_eq.2 HKK.out
    have d1 : decide (snow < lrd) = false := decide_eq_false (by have := HRD.out HKK.out; omega)
    go_upto_region 27 with fail
    go_cut [193] from 186 to 193 (fun s wx => s = .bool false ∧ Hid (Below w8.heap.size w8 wx))
    case first =>
      clear y0 y1 fz0 fz1 hlg hcur9
      go_quiet (fail)
      go_wp2
      go_meet
      case rel => exact ⟨rfl, below_drewN (Below.refl _ _) _⟩
    case rest =>
    obtain ⟨rfl, hb10⟩ := hcut
    obtain ⟨w10, hw10⟩ : ∃ w10, w10 = wc := ⟨_, rfl⟩
    rw [← hw10] at hb10 ⊢
    clear hw10 hcur9 y0 y1 fz0 fz1 hlg m0 m1 m2 m3 m4 hlm e6 hlb8 d1
    replace H8' := Lib.hid (H8'.out.below hb10.out)
    replace H9' := Lib.hid (H9'.out.below hb10.out)
    replace HB8 := Lib.hid (below_trans HB8.out hb10.out)
    replace HM8 := Lib.hid (bl_below HM8.out hb10.out)
    obtain ⟨⟨m0, m1, m2, m3, m4⟩, -⟩ := blc5 HM8.out
    have hlm := bl_lt HM8.out
    obtain ⟨cur9, hcur9, -⟩ := H9'.out.open
    obtain ⟨bq, oq, q'', hAq, hq', y0, y1⟩ := (Own.rd H9'.out).qa j hjl2
    cases hAq
    obtain rfl : q'' = q' := Option.some.inj (hq'.out.symm.trans HQ9.out)
    simp only [Nat.zero_add] at y0 y1
    have fz0 := bl_frozen hcur9 (j * 2)
    have fz1 := bl_frozen hcur9 (j * 2 + 1)
    have hlg := bl_lt hcur9
    clear hb10 hq'
    go_upto_region 32 with fail
    obtain ⟨w11, hw11⟩ : ∃ w11, w11 = w10.setCell ⟨g9, j * 2 + 1, none⟩ (.int .i64 (q''.o + 1)) := ⟨_, rfl⟩
    have K8 : Hid (Own w11 w3.heap.size 33 (.slice (some ⟨b8, o8, none⟩) cs.sent.length c8) cs.sent) := by show Own _ _ _ _ _; rw [hw11]; exact H8'.out.setCell (H8'.out.ne hcur9 (by decide)) _
    have K9 : Hid (Own w11 w3.heap.size 57 (.slice (some ⟨g9, 0, none⟩) cs.all.length cap9) (cs.all.set j (outA q''))) := by show Own _ _ _ _ _; rw [hw11]; exact Own.store H9'.out j 1 q'' (outA q'') _ (by decide) HQ9.out rfl
    have KM : Hid (w11.heap[wr.heap.size]? = some (.cells #[.int .i64 (j : Int), .int .i64 lfr, .int .i64 lto, .int .i64 lrd, .string m'.data] 33 (0, 0))) := by show _ = _; rw [hw11]; refine bl_far HM8.out ?_ _; exact fun h => H9'.out.ne HM8.out (by decide) (congrArg some h.symm)
    have KB : Hid (Below w3.heap.size w3 w11) := by show Below _ _ _; rw [hw11]; exact HB8.out.setCell (H9'.out.lt g9 rfl).1 _
    rw [← hw11]
    have hgl : g9 < w11.heap.size := by rw [hw11]; simpa [World.setCell] using hlg
    clear hw11 hcur9 y0 y1 fz0 fz1 hlg m0 m1 m2 m3 m4 hlm
    obtain ⟨bq2, oq2, q2, hAq2, hq2, y0, y1⟩ := (Own.rd K9.out).qa j (by simpa using hjl2)
    cases hAq2
    obtain rfl : q2 = outA q'' := Option.some.inj (hq2.out.symm.trans (List.getElem?_set_self hjl2))
    simp only [Nat.zero_add, outA] at y0 y1
    have hle : (outA q'').o ≤ (outA q'').i := by
      obtain ⟨e4, e5, e6⟩ := HQK.out
      have hK := HKK.out
      have hv := e6 (.inl hK)
      simp only [outA]
      omega
    have d2 : decide ((outA q'').i < (outA q'').o) = false := decide_eq_false (by omega)
    simp only [outA] at d2
    have d3 : decide (q''.i ≤ q''.o) = false := decide_eq_false (by have h := of_decide_eq_false d2; omega)
    obtain ⟨⟨m0, m1, m2, m3, m4⟩, -⟩ := blc5 KM.out
    have hlm := bl_lt KM.out
    clear hle hq2
    go_quiet (fail)
    go_wp2
    · exact absurd ‹q''.i < q''.o + 1› (of_decide_eq_false d2)
    refine ⟨⟨_, st_of 316 (by rfl), k + 1, _, _, by omega, rfl, rfl, rfl, rfl, rfl, by show _ = Value.int .i64 _; go_num, by show Own _ _ _ _ _; rw [HNX.out, HSENT.out]; exact K8.out.drewN _, by show Own _ _ _ _ _; rw [HNX.out, HALL.out]; exact K9.out.drewN _, below_drewN KB.out _⟩, ?_⟩
    show xs.length - (intOf (.int .i64 ((k : Int) + 1))).toNat < xs.length - k
    simp [intOf]; omega
set_option maxHeartbeats 8000000 in
set_option maxRecDepth 100000 in
theorem cons_lose (xs : List Ac) (A : Option Addr) (c : Nat) (A6 : Option Addr) (c6 g5 : Nat) (S : List Sn) (rs : List SnR) (x0 : Nt) (w3 wr : World) (f : Nat → Value) (Q0 : Exit → Act → World → Prop) (k : Nat) (u8 u9 : Value) (hlx : xs.length ≤ 300) (hlk : k < xs.length)
    (HR3 : Hid (Rd w3 A xs)) (HRL : Hid (Rd w3 A6 rs)) (HSS : Hid (Sns w3 rs S)) (HRS : Hid (rs.length = xs.length))
    (HCA : Hid (∀ k, k ≤ xs.length → Ok (playX x0 (xs.take k)) ∧ ConsI k (playX x0 (xs.take k)) (consF ⟨[], []⟩ (S.take k)))) (HSG : Hid (∀ k d, xs[k]? = some d → S[k]? = some (doSR (playX x0 (xs.take k)) d)))
    (h1 : f 1 = .slice A xs.length c) (h5 : f 5 = .pointer (some ⟨g5, 0, none⟩)) (h6 : f 6 = .slice A6 xs.length c6) (h8 : f 8 = u8) (h9 : f 9 = u9) (h10 : f 10 = .int .i64 (k : Int))
    (hO8 : Hid (Own wr w3.heap.size 33 u8 (consF ⟨[], []⟩ (S.take k)).sent)) (hO9 : Hid (Own wr w3.heap.size 57 u9 (consF ⟨[], []⟩ (S.take k)).all)) (hB : Hid (Below w3.heap.size w3 wr))
    (hQ0 : ∀ (d : Option Tmp) (v : Value) c a w, Q0 (.panic c) (a.put d v) w → Q0 (.panic c) a w)
    (hkind : Hid (∀ s, S[k]? = some s → s.e = 0 ∧ s.a.k = 3)) :
    consBody.wp Try.prog (Exit.then (fun a' w' => consI xs A c A6 c6 g5 S w3 a' w' ∧ consMu xs a' w' < consMu xs (st 316 f) wr) Q0) (st 316 f) wr := by
  conv => arg 2; whnf
  have hmu : Hid (consMu xs (st 316 f) wr = xs.length - k) := by
    show _ = _
    unfold consMu
    rw [st_getD (by decide), h10]; rfl
  rw [hmu.out]
  rw [st_all4, h1, h5, h6, h8, h9, h10]
  clear h1 h5 h6 h8 h9 h10
  obtain ⟨ba, oa, d, hAeq, hd, c0, c1, c2, c3, c4⟩ := (HR3.out.below hB.out).ac k hlk
  subst hAeq
  obtain ⟨bb, off, s, ta, tc, hAeq, hs, -, e0, e1, e2, e3, e4, e5, e6, e7, e8, e9, e10, e11, -⟩ := (HRL.out.below hB.out).sn (HSS.out.below hB.out) k (by rw [HRS.out]; exact hlk)
  subst hAeq
  have hba : ba < wr.heap.size := World.block_lt_of_cell? wr _ c0
  have hbt : bb < wr.heap.size := World.block_lt_of_cell? wr _ e0
  obtain ⟨hoy, hcy⟩ := HCA.out k (by omega)
  have hsy : s = doSR (playX x0 (xs.take k)) d := Option.some.inj (hs.out.symm.trans (HSG.out k d hd.out))
  rw [doSR_ok hoy] at hsy
  have hstep := cons_step hoy hcy d
  rw [← hsy] at hstep
  have hsa : s.a = d := by rw [hsy]; exact doS_act _ _
  have hnx : consF ⟨[], []⟩ (S.take (k + 1)) = consS (consF ⟨[], []⟩ (S.take k)) s := by rw [List.take_add_one, hs.out]; exact consF_snoc _ _ _
  obtain ⟨cs, hcs⟩ : ∃ c, c = consF ⟨[], []⟩ (S.take k) := ⟨_, rfl⟩
  rw [← hcs] at hO8 hO9 hcy hstep hnx
  have HNX := Lib.hid hnx
  have HCI := Lib.hid hcy
  have HOK := Lib.hid hstep.1
  have hkd := hkind.out s hs.out
  clear hnx hcs hcy hstep hoy hsy hs hd hkind
  obtain ⟨sa, se, snow, ⟨lid, lfr, lto, lrd, ldt⟩, sts⟩ := s
  simp only at hsa e0 e1 e2 e3 e4 e5 e6 e7 e8 e9 e10 e11
  subst hsa
  go_upto_region 15 with fail
  obtain ⟨w7, hw7⟩ : ∃ w7, w7 = wr.alloc (.cells #[.int .i64 lid, .int .i64 lfr, .int .i64 lto, .int .i64 lrd, .string ldt] 33) := ⟨_, rfl⟩
  have hb7 : Below wr.heap.size wr w7 := by rw [hw7]; exact below_alloc (Below.refl _ _) _
  have hm7 : w7.heap[wr.heap.size]? = some (.cells #[.int .i64 lid, .int .i64 lfr, .int .i64 lto, .int .i64 lrd, .string ldt] 33 (0, 0)) := by rw [hw7]; exact bl_new _ _
  rw [← hw7]
  clear hw7
  have H8 := Lib.hid (hO8.out.below hb7)
  have H9 := Lib.hid (hO9.out.below hb7)
  have HB7 := Lib.hid (below_trans hB.out hb7)
  have HM7 := Lib.hid hm7
  have hla := (Nat.lt_of_lt_of_le hba hb7.size)
  have hlb := (Nat.lt_of_lt_of_le hbt hb7.size)
  replace c0 := cell_below hb7 c0
  replace c1 := cell_below hb7 c1
  replace c2 := cell_below hb7 c2
  replace c4 := cell_below hb7 c4
  replace e0 := cell_below hb7 e0
  replace e5 := cell_below hb7 e5
  replace e6 := cell_below hb7 e6
  obtain ⟨⟨m0, m1, m2, m3, m4⟩, -⟩ := blc5 hm7
  have hlm := bl_lt hm7
  clear hb7 hm7 hO8 hO9 hB hba hbt e1 e2 e3 e4 e7 e8 e9 e10 e11 c3
  simp only at hkd
  obtain ⟨hk0, hkK⟩ := hkd
  have t1 : (se != 0) = false := bne_eq_false_iff_eq.2 hk0
  have t2 : decide (sa.k < 1) = false := decide_eq_false (by omega)
  have t3 : decide (5 < sa.k) = false := decide_eq_false (by omega)
  have hk1 : 1 ≤ sa.k := by omega
  have hk5 : sa.k ≤ 5 := by omega
  have hok := HOK.out hk0 hk1 hk5
  have HKK := Lib.hid hkK
  clear hk0 hkK
  have HCS : Hid (consS cs ⟨sa, se, snow, ⟨lid, lfr, lto, lrd, ldt⟩, sts⟩ = if sa.k = 1 then ⟨cs.sent ++ [⟨lid, lfr, lto, lrd, ldt⟩], cs.all ++ [⟨1, 0⟩]⟩ else if sa.k = 4 then ⟨cs.sent, cs.all.modify lid.toNat incA⟩ else if sa.k = 2 ∨ sa.k = 3 then ⟨cs.sent, cs.all.modify lid.toNat outA⟩ else cs) := by
    show _ = _
    unfold consS
    rw [if_neg (by have := bne_eq_false_iff_eq.1 t1; simp only; omega)]
  have HLA : Hid (cs.all.length = cs.sent.length) := HCI.out.la
  have HLS : Hid (cs.sent.length ≤ 300) := Nat.le_trans HCI.out.ln (by omega)
  clear HOK
  simp only at hok
  have q1 : (sa.k == 1) = false := beq_eq_false_iff_ne.2 (by have := HKK.out; omega)
  have hne1 : ¬ sa.k = 1 := beq_eq_false_iff_ne.1 q1
  have hcs2 := HCS.out.trans (if_neg hne1)
  obtain ⟨g1, -⟩ | ⟨g1, g2, g3, ⟨m, g4, g5, g6, g7⟩, g8, q, g9, g10, g11, g12, g13⟩ := hok
  · exact absurd g1 hne1
  obtain ⟨j, hj⟩ : ∃ j : Nat, lid = j := ⟨lid.toNat, by omega⟩
  subst hj
  rw [Int.toNat_natCast] at g4 g9 hcs2
  have hjl : j < cs.sent.length := by omega
  have hjl2 : j < cs.all.length := by rw [HLA.out]; exact hjl
  subst g7
  have p1 : decide ((j : Int) < 0) = false := decide_eq_false (by omega)
  have p2 : decide (cs.sent.length ≤ j) = false := decide_eq_false (by omega)
  have p2' : decide ((cs.sent.length : Int) ≤ (j : Int)) = false := decide_eq_false (by omega)
  have p3 : (lfr != m.fr) = false := bne_eq_false_iff_eq.2 g5
  have p4 : (lto != m.to) = false := bne_eq_false_iff_eq.2 g6
  have hq0 : 0 ≤ q.o := g10
  have hq1 : q.o ≤ q.i + 1 := by
    obtain h | h | h : sa.k = 4 ∨ sa.k = 5 ∨ (sa.k = 2 ∨ sa.k = 3) := by omega
    · exact g11 h
    · have := g12 h; omega
    · have := g13 h; omega
  have hq2 : q.i ≤ 300 := by have := (HCI.out.bd j q g9).2; omega
  have HC2 := Lib.hid hcs2
  have HM4 := Lib.hid g4
  have HQ9 := Lib.hid g9
  have HQK := Lib.hid (And.intro g11 (And.intro g12 g13))
  have HRD := Lib.hid g8
  clear hcs2 g1 g2 g3 g4 g5 g6 g8 g9 g10 g11 g12 g13 hne1 HCS
  obtain ⟨A8, c8, hu8, -, hR8⟩ := H8.out.slice
  subst hu8
  obtain ⟨b8, o8, m', hA8, hm', x0, x1', x2, x3, x4⟩ := hR8.lt j hjl
  subst hA8
  obtain rfl : m' = m := Option.some.inj (hm'.out.symm.trans HM4.out)
  have hl8 : b8 < w7.heap.size := World.block_lt_of_cell? w7 _ x0
  clear hR8 hm'
  go_upto_region 21 with fail
  go_cut [171] from 129 to 171 (fun s wx => s = .bool false ∧ Hid (Below w7.heap.size w7 wx))
  case first =>
    refine wp_st 316 (by rfl) fun f0 hf0 => ?_
    have iq12 : f0 12 = .pointer (some ⟨wr.heap.size, 0, none⟩) := (hf0 12).trans rfl
    have iq8 : f0 8 = .slice (some ⟨b8, o8, none⟩) cs.sent.length c8 := (hf0 8).trans rfl
    have HF0 := Lib.hid hf0
    clear hf0
    refine wp_mixW [1, 2, 3, 10, 5, 8, 7, 8, 9, 10, 21, 12, 19, 16, 15, 16, 17, 18, 19, 20, 21, 32, 23, 30, 27, 26, 27, 28, 29, 30, 31, 32, 42, 34, 41, 38, 37, 38, 39, 40, 41, 42] [(0, true), (1, true), (2, true), (3, true), (4, true), (5, true), (6, true), (7, true), (8, true), (9, true), (10, true), (11, true), (12, true), (13, true), (14, true), (15, true), (16, true), (17, true), (18, true), (19, true), (20, true), (21, true), (22, true), (23, true), (24, true), (25, true), (26, true), (27, true), (28, true), (29, true), (30, true), (31, true), (32, true), (33, true), (34, true), (35, true), (36, true), (37, true), (38, true), (39, true), (40, true), (41, true)] 42
      (fun w' => Below w7.heap.size w7 w')
      (by kernel_rfl) (by kernel_rfl) (by kernel_rfl) (by kernel_rfl) (by kernel_rfl) (fun d v c a w h => hQ0 d v c a w h) (Below.refl _ _).drew ?_
    intro ops K Q1 hops HK
    have o_3 := hops.out 3 _ rfl
    have o_10 := hops.out 10 _ rfl
    have o_21 := hops.out 21 _ rfl
    have o_32 := hops.out 32 _ rfl
    clear hops
    simp only [pick, List.map_cons, List.map_nil, List.getD_cons_zero, List.getD_cons_succ, List.drop_succ_cons, List.drop_zero]
    apply mixS_take (i := 129) rfl (by decide) (want_none rfl)
    case hy => intro W' hW'; obtain ⟨hwc, -⟩ := bcell hW'; simp only [execOp, st_eval, st_const, st_func, upd, Nat.reduceLT, Nat.reduceEqDiff, if_true, if_false, ite_true, ite_false, reduceIte, iq12, iq8, List.map_toArray, List.map_cons, List.map_nil]; (try go_simp); try rfl
    apply mixS_take (i := 130) rfl (by decide) (want_none rfl)
    case hy => intro W' hW'; obtain ⟨hwc, -⟩ := bcell hW'; simp only [execOp, st_eval, st_const, st_func, upd, Nat.reduceLT, Nat.reduceEqDiff, if_true, if_false, ite_true, ite_false, reduceIte, iq12, iq8, List.map_toArray, List.map_cons, List.map_nil]; (try go_simp); try rfl
    apply mixS_take (i := 131) rfl (by decide) (want_none rfl)
    case hy => intro W' hW'; obtain ⟨hwc, -⟩ := bcell hW'; simp only [execOp, st_eval, st_const, st_func, upd, Nat.reduceLT, Nat.reduceEqDiff, if_true, if_false, ite_true, ite_false, reduceIte, iq12, iq8, List.map_toArray, List.map_cons, List.map_nil]; (try go_simp); try rfl
    apply mixS_take (i := 132) rfl (by decide) (want_none rfl)
    case hy => intro W' hW'; obtain ⟨hwc, -⟩ := bcell hW'; simp only [execOp, st_eval, st_const, st_func, upd, Nat.reduceLT, Nat.reduceEqDiff, if_true, if_false, ite_true, ite_false, reduceIte, iq12, iq8, List.map_toArray, List.map_cons, List.map_nil]; (try go_simp); try rfl
    apply mixS_take (i := 133) rfl (by decide) (want_st (j := 3) (i := 132) rfl o_3 rfl (by decide) (by first | rfl | simp [upd, *]))
    case hy => intro W' hW'; obtain ⟨hwc, -⟩ := bcell hW'; simp only [execOp, st_eval, st_const, st_func, upd, Nat.reduceLT, Nat.reduceEqDiff, if_true, if_false, ite_true, ite_false, reduceIte, iq12, iq8, List.map_toArray, List.map_cons, List.map_nil]; (try go_simp); try rfl
    apply mixS_take (i := 134) rfl (by decide) (want_st (j := 3) (i := 132) rfl o_3 rfl (by decide) (by first | rfl | simp [upd, *]))
    case hy => intro W' hW'; obtain ⟨hwc, -⟩ := bcell hW'; simp only [execOp, st_eval, st_const, st_func, upd, Nat.reduceLT, Nat.reduceEqDiff, if_true, if_false, ite_true, ite_false, reduceIte, iq12, iq8, List.map_toArray, List.map_cons, List.map_nil]; (try go_simp); try rfl
    apply mixS_take (i := 135) rfl (by decide) (want_st (j := 3) (i := 132) rfl o_3 rfl (by decide) (by first | rfl | simp [upd, *]))
    case hy => intro W' hW'; obtain ⟨hwc, -⟩ := bcell hW'; simp only [execOp, st_eval, st_const, st_func, upd, Nat.reduceLT, Nat.reduceEqDiff, if_true, if_false, ite_true, ite_false, reduceIte, iq12, iq8, List.map_toArray, List.map_cons, List.map_nil]; (try go_simp); try rfl
    apply mixS_take (i := 136) rfl (by decide) (want_st (j := 3) (i := 132) rfl o_3 rfl (by decide) (by first | rfl | simp [upd, *]))
    case hy => intro W' hW'; obtain ⟨hwc, -⟩ := bcell hW'; simp only [execOp, st_eval, st_const, st_func, upd, Nat.reduceLT, Nat.reduceEqDiff, if_true, if_false, ite_true, ite_false, reduceIte, iq12, iq8, List.map_toArray, List.map_cons, List.map_nil]; (try go_simp); try rfl
    apply mixS_take (i := 137) rfl (by decide) (want_st (j := 3) (i := 132) rfl o_3 rfl (by decide) (by first | rfl | simp [upd, *]))
    case hy => intro W' hW'; obtain ⟨hwc, -⟩ := bcell hW'; simp only [execOp, st_eval, st_const, st_func, upd, Nat.reduceLT, Nat.reduceEqDiff, if_true, if_false, ite_true, ite_false, reduceIte, iq12, iq8, List.map_toArray, List.map_cons, List.map_nil]; (try go_simp); try rfl
    apply mixS_take (i := 138) rfl (by decide) (want_none rfl)
    case hy => intro W' hW'; obtain ⟨hwc, -⟩ := bcell hW'; simp only [execOp, st_eval, st_const, st_func, upd, Nat.reduceLT, Nat.reduceEqDiff, if_true, if_false, ite_true, ite_false, reduceIte, iq12, iq8, List.map_toArray, List.map_cons, List.map_nil]; (try go_simp); try rfl
    apply mixS_take (i := 139) rfl (by decide) (want_none rfl)
    case hy => intro W' hW'; obtain ⟨hwc, -⟩ := bcell hW'; simp only [execOp, st_eval, st_const, st_func, upd, Nat.reduceLT, Nat.reduceEqDiff, if_true, if_false, ite_true, ite_false, reduceIte, iq12, iq8, List.map_toArray, List.map_cons, List.map_nil]; (try go_simp); try rfl
    apply mixS_take (i := 140) rfl (by decide) (want_st (j := 10) (i := 139) rfl o_10 rfl (by decide) (by first | rfl | simp [upd, *]))
    case hy => intro W' hW'; obtain ⟨hwc, -⟩ := bcell hW'; simp only [execOp, st_eval, st_const, st_func, upd, Nat.reduceLT, Nat.reduceEqDiff, if_true, if_false, ite_true, ite_false, reduceIte, iq12, iq8, List.map_toArray, List.map_cons, List.map_nil]; (try go_simp); try rfl
    apply mixS_take (i := 141) rfl (by decide) (want_st (j := 10) (i := 139) rfl o_10 rfl (by decide) (by first | rfl | simp [upd, *]))
    case hy => intro W' hW'; obtain ⟨hwc, -⟩ := bcell hW'; simp only [execOp, st_eval, st_const, st_func, upd, Nat.reduceLT, Nat.reduceEqDiff, if_true, if_false, ite_true, ite_false, reduceIte, iq12, iq8, List.map_toArray, List.map_cons, List.map_nil]; (try go_simp); try rfl
    apply mixS_take (i := 142) rfl (by decide) (want_st (j := 10) (i := 139) rfl o_10 rfl (by decide) (by first | rfl | simp [upd, *]))
    case hy => intro W' hW'; obtain ⟨hwc, -⟩ := bcell hW'; simp only [execOp, st_eval, st_const, st_func, upd, Nat.reduceLT, Nat.reduceEqDiff, if_true, if_false, ite_true, ite_false, reduceIte, iq12, iq8, List.map_toArray, List.map_cons, List.map_nil]; (try go_simp); try rfl
    apply mixS_take (i := 143) rfl (by decide) (want_st (j := 10) (i := 139) rfl o_10 rfl (by decide) (by first | rfl | simp [upd, *]))
    case hy => intro W' hW'; obtain ⟨hwc, -⟩ := bcell hW'; simp only [execOp, st_eval, st_const, st_func, upd, Nat.reduceLT, Nat.reduceEqDiff, if_true, if_false, ite_true, ite_false, reduceIte, iq12, iq8, List.map_toArray, List.map_cons, List.map_nil]; (try go_simp); try rfl
    apply mixS_take (i := 144) rfl (by decide) (want_st (j := 10) (i := 139) rfl o_10 rfl (by decide) (by first | rfl | simp [upd, *]))
    case hy => intro W' hW'; obtain ⟨hwc, -⟩ := bcell hW'; simp only [execOp, st_eval, st_const, st_func, upd, Nat.reduceLT, Nat.reduceEqDiff, if_true, if_false, ite_true, ite_false, reduceIte, iq12, iq8, List.map_toArray, List.map_cons, List.map_nil]; (try go_simp); try rfl
    apply mixS_take (i := 145) rfl (by decide) (want_st (j := 10) (i := 139) rfl o_10 rfl (by decide) (by first | rfl | simp [upd, *]))
    case hy => intro W' hW'; obtain ⟨hwc, -⟩ := bcell hW'; simp only [execOp, st_eval, st_const, st_func, upd, Nat.reduceLT, Nat.reduceEqDiff, if_true, if_false, ite_true, ite_false, reduceIte, iq12, iq8, List.map_toArray, List.map_cons, List.map_nil]; (try go_simp); try rfl
    apply mixS_take (i := 146) rfl (by decide) (want_st (j := 10) (i := 139) rfl o_10 rfl (by decide) (by first | rfl | simp [upd, *]))
    case hy => intro W' hW'; obtain ⟨hwc, -⟩ := bcell hW'; simp only [execOp, st_eval, st_const, st_func, upd, Nat.reduceLT, Nat.reduceEqDiff, if_true, if_false, ite_true, ite_false, reduceIte, iq12, iq8, List.map_toArray, List.map_cons, List.map_nil]; (try go_simp); try rfl
    apply mixS_take (i := 147) rfl (by decide) (want_st (j := 10) (i := 139) rfl o_10 rfl (by decide) (by first | rfl | simp [upd, *]))
    case hy => intro W' hW'; obtain ⟨hwc, -⟩ := bcell hW'; simp only [execOp, st_eval, st_const, st_func, upd, Nat.reduceLT, Nat.reduceEqDiff, if_true, if_false, ite_true, ite_false, reduceIte, iq12, iq8, List.map_toArray, List.map_cons, List.map_nil]; (try go_simp); try rfl
    apply mixS_take (i := 148) rfl (by decide) (want_st (j := 10) (i := 139) rfl o_10 rfl (by decide) (by first | rfl | simp [upd, *]))
    case hy => intro W' hW'; obtain ⟨hwc, -⟩ := bcell hW'; simp only [execOp, st_eval, st_const, st_func, upd, Nat.reduceLT, Nat.reduceEqDiff, if_true, if_false, ite_true, ite_false, reduceIte, iq12, iq8, List.map_toArray, List.map_cons, List.map_nil]; (try go_simp); try rfl
    apply mixS_take (i := 149) rfl (by decide) (want_none rfl)
    case hy => intro W' hW'; obtain ⟨hwc, -⟩ := bcell hW'; simp only [execOp, st_eval, st_const, st_func, upd, Nat.reduceLT, Nat.reduceEqDiff, if_true, if_false, ite_true, ite_false, reduceIte, iq12, iq8, List.map_toArray, List.map_cons, List.map_nil]; (try go_simp); try rfl
    apply mixS_take (i := 150) rfl (by decide) (want_none rfl)
    case hy => intro W' hW'; obtain ⟨hwc, -⟩ := bcell hW'; simp only [execOp, st_eval, st_const, st_func, upd, Nat.reduceLT, Nat.reduceEqDiff, if_true, if_false, ite_true, ite_false, reduceIte, iq12, iq8, List.map_toArray, List.map_cons, List.map_nil]; (try go_simp); try rfl
    apply mixS_take (i := 151) rfl (by decide) (want_st (j := 21) (i := 150) rfl o_21 rfl (by decide) (by first | rfl | simp [upd, *]))
    case hy => intro W' hW'; obtain ⟨hwc, -⟩ := bcell hW'; simp only [execOp, st_eval, st_const, st_func, upd, Nat.reduceLT, Nat.reduceEqDiff, if_true, if_false, ite_true, ite_false, reduceIte, iq12, iq8, List.map_toArray, List.map_cons, List.map_nil]; (try go_simp); try rfl
    apply mixS_take (i := 152) rfl (by decide) (want_st (j := 21) (i := 150) rfl o_21 rfl (by decide) (by first | rfl | simp [upd, *]))
    case hy => intro W' hW'; obtain ⟨hwc, -⟩ := bcell hW'; simp only [execOp, st_eval, st_const, st_func, upd, Nat.reduceLT, Nat.reduceEqDiff, if_true, if_false, ite_true, ite_false, reduceIte, iq12, iq8, List.map_toArray, List.map_cons, List.map_nil]; (try go_simp); try rfl
    apply mixS_take (i := 153) rfl (by decide) (want_st (j := 21) (i := 150) rfl o_21 rfl (by decide) (by first | rfl | simp [upd, *]))
    case hy => intro W' hW'; obtain ⟨hwc, -⟩ := bcell hW'; simp only [execOp, st_eval, st_const, st_func, upd, Nat.reduceLT, Nat.reduceEqDiff, if_true, if_false, ite_true, ite_false, reduceIte, iq12, iq8, List.map_toArray, List.map_cons, List.map_nil]; (try go_simp); try rfl
    apply mixS_take (i := 154) rfl (by decide) (want_st (j := 21) (i := 150) rfl o_21 rfl (by decide) (by first | rfl | simp [upd, *]))
    case hy => intro W' hW'; obtain ⟨hwc, -⟩ := bcell hW'; simp only [execOp, st_eval, st_const, st_func, upd, Nat.reduceLT, Nat.reduceEqDiff, if_true, if_false, ite_true, ite_false, reduceIte, iq12, iq8, List.map_toArray, List.map_cons, List.map_nil]; (try go_simp); try rfl
    apply mixS_take (i := 155) rfl (by decide) (want_st (j := 21) (i := 150) rfl o_21 rfl (by decide) (by first | rfl | simp [upd, *]))
    case hy => intro W' hW'; obtain ⟨hwc, -⟩ := bcell hW'; simp only [execOp, st_eval, st_const, st_func, upd, Nat.reduceLT, Nat.reduceEqDiff, if_true, if_false, ite_true, ite_false, reduceIte, iq12, iq8, List.map_toArray, List.map_cons, List.map_nil]; (try go_simp); try rfl
    apply mixS_take (i := 156) rfl (by decide) (want_st (j := 21) (i := 150) rfl o_21 rfl (by decide) (by first | rfl | simp [upd, *]))
    case hy => intro W' hW'; obtain ⟨hwc, -⟩ := bcell hW'; simp only [execOp, st_eval, st_const, st_func, upd, Nat.reduceLT, Nat.reduceEqDiff, if_true, if_false, ite_true, ite_false, reduceIte, iq12, iq8, List.map_toArray, List.map_cons, List.map_nil]; (try go_simp); try rfl
    apply mixS_take (i := 157) rfl (by decide) (want_st (j := 21) (i := 150) rfl o_21 rfl (by decide) (by first | rfl | simp [upd, *]))
    case hy => intro W' hW'; obtain ⟨hwc, -⟩ := bcell hW'; simp only [execOp, st_eval, st_const, st_func, upd, Nat.reduceLT, Nat.reduceEqDiff, if_true, if_false, ite_true, ite_false, reduceIte, iq12, iq8, List.map_toArray, List.map_cons, List.map_nil]; (try go_simp); try rfl
    apply mixS_take (i := 158) rfl (by decide) (want_st (j := 21) (i := 150) rfl o_21 rfl (by decide) (by first | rfl | simp [upd, *]))
    case hy => intro W' hW'; obtain ⟨hwc, -⟩ := bcell hW'; simp only [execOp, st_eval, st_const, st_func, upd, Nat.reduceLT, Nat.reduceEqDiff, if_true, if_false, ite_true, ite_false, reduceIte, iq12, iq8, List.map_toArray, List.map_cons, List.map_nil]; (try go_simp); try rfl
    apply mixS_take (i := 159) rfl (by decide) (want_st (j := 21) (i := 150) rfl o_21 rfl (by decide) (by first | rfl | simp [upd, *]))
    case hy => intro W' hW'; obtain ⟨hwc, -⟩ := bcell hW'; simp only [execOp, st_eval, st_const, st_func, upd, Nat.reduceLT, Nat.reduceEqDiff, if_true, if_false, ite_true, ite_false, reduceIte, iq12, iq8, List.map_toArray, List.map_cons, List.map_nil]; (try go_simp); try rfl
    apply mixS_take (i := 160) rfl (by decide) (want_none rfl)
    case hy => intro W' hW'; obtain ⟨hwc, -⟩ := bcell hW'; simp only [execOp, st_eval, st_const, st_func, upd, Nat.reduceLT, Nat.reduceEqDiff, if_true, if_false, ite_true, ite_false, reduceIte, iq12, iq8, List.map_toArray, List.map_cons, List.map_nil]; (try go_simp); try rfl
    apply mixS_take (i := 161) rfl (by decide) (want_none rfl)
    case hy => intro W' hW'; obtain ⟨hwc, -⟩ := bcell hW'; simp only [execOp, st_eval, st_const, st_func, upd, Nat.reduceLT, Nat.reduceEqDiff, if_true, if_false, ite_true, ite_false, reduceIte, iq12, iq8, List.map_toArray, List.map_cons, List.map_nil]; (try go_simp); try rfl
    apply mixS_take (i := 162) rfl (by decide) (want_st (j := 32) (i := 161) rfl o_32 rfl (by decide) (by first | rfl | simp [upd, *]))
    case hy => intro W' hW'; obtain ⟨hwc, -⟩ := bcell hW'; simp only [execOp, st_eval, st_const, st_func, upd, Nat.reduceLT, Nat.reduceEqDiff, if_true, if_false, ite_true, ite_false, reduceIte, iq12, iq8, List.map_toArray, List.map_cons, List.map_nil]; (try go_simp); try rfl
    apply mixS_take (i := 163) rfl (by decide) (want_st (j := 32) (i := 161) rfl o_32 rfl (by decide) (by first | rfl | simp [upd, *]))
    case hy => intro W' hW'; obtain ⟨hwc, -⟩ := bcell hW'; simp only [execOp, st_eval, st_const, st_func, upd, Nat.reduceLT, Nat.reduceEqDiff, if_true, if_false, ite_true, ite_false, reduceIte, iq12, iq8, List.map_toArray, List.map_cons, List.map_nil]; (try go_simp); try rfl
    apply mixS_take (i := 164) rfl (by decide) (want_st (j := 32) (i := 161) rfl o_32 rfl (by decide) (by first | rfl | simp [upd, *]))
    case hy => intro W' hW'; obtain ⟨hwc, -⟩ := bcell hW'; simp only [execOp, st_eval, st_const, st_func, upd, Nat.reduceLT, Nat.reduceEqDiff, if_true, if_false, ite_true, ite_false, reduceIte, iq12, iq8, List.map_toArray, List.map_cons, List.map_nil]; (try go_simp); try rfl
    apply mixS_take (i := 165) rfl (by decide) (want_st (j := 32) (i := 161) rfl o_32 rfl (by decide) (by first | rfl | simp [upd, *]))
    case hy => intro W' hW'; obtain ⟨hwc, -⟩ := bcell hW'; simp only [execOp, st_eval, st_const, st_func, upd, Nat.reduceLT, Nat.reduceEqDiff, if_true, if_false, ite_true, ite_false, reduceIte, iq12, iq8, List.map_toArray, List.map_cons, List.map_nil]; (try go_simp); try rfl
    apply mixS_take (i := 166) rfl (by decide) (want_st (j := 32) (i := 161) rfl o_32 rfl (by decide) (by first | rfl | simp [upd, *]))
    case hy => intro W' hW'; obtain ⟨hwc, -⟩ := bcell hW'; simp only [execOp, st_eval, st_const, st_func, upd, Nat.reduceLT, Nat.reduceEqDiff, if_true, if_false, ite_true, ite_false, reduceIte, iq12, iq8, List.map_toArray, List.map_cons, List.map_nil]; (try go_simp); try rfl
    apply mixS_take (i := 167) rfl (by decide) (want_st (j := 32) (i := 161) rfl o_32 rfl (by decide) (by first | rfl | simp [upd, *]))
    case hy => intro W' hW'; obtain ⟨hwc, -⟩ := bcell hW'; simp only [execOp, st_eval, st_const, st_func, upd, Nat.reduceLT, Nat.reduceEqDiff, if_true, if_false, ite_true, ite_false, reduceIte, iq12, iq8, List.map_toArray, List.map_cons, List.map_nil]; (try go_simp); try rfl
    apply mixS_take (i := 168) rfl (by decide) (want_st (j := 32) (i := 161) rfl o_32 rfl (by decide) (by first | rfl | simp [upd, *]))
    case hy => intro W' hW'; obtain ⟨hwc, -⟩ := bcell hW'; simp only [execOp, st_eval, st_const, st_func, upd, Nat.reduceLT, Nat.reduceEqDiff, if_true, if_false, ite_true, ite_false, reduceIte, iq12, iq8, List.map_toArray, List.map_cons, List.map_nil]; (try go_simp); try rfl
    apply mixS_take (i := 169) rfl (by decide) (want_st (j := 32) (i := 161) rfl o_32 rfl (by decide) (by first | rfl | simp [upd, *]))
    case hy => intro W' hW'; obtain ⟨hwc, -⟩ := bcell hW'; simp only [execOp, st_eval, st_const, st_func, upd, Nat.reduceLT, Nat.reduceEqDiff, if_true, if_false, ite_true, ite_false, reduceIte, iq12, iq8, List.map_toArray, List.map_cons, List.map_nil]; (try go_simp); try rfl
    apply mixS_take (i := 170) rfl (by decide) (want_st (j := 32) (i := 161) rfl o_32 rfl (by decide) (by first | rfl | simp [upd, *]))
    case hy => intro W' hW'; obtain ⟨hwc, -⟩ := bcell hW'; simp only [execOp, st_eval, st_const, st_func, upd, Nat.reduceLT, Nat.reduceEqDiff, if_true, if_false, ite_true, ite_false, reduceIte, iq12, iq8, List.map_toArray, List.map_cons, List.map_nil]; (try go_simp); try rfl
    refine mix_nil (HK.out _ _ ?_)
    generalize hf9 : upd _ _ _ = f9
    have hlow : ∀ j, j < 129 ∨ 172 ≤ j → f9 j = f0 j := fun j hj => by rw [← hf9]; repeat (rw [upd_ne (by omega)])
    have hA := st_lit21 f9 _ (by rfl) (fun j hj => (hlow j hj).trans (HF0.out j))
    simp only [List.take_succ_cons, List.take_zero, List.drop_succ_cons, List.drop_zero, List.cons_append, List.nil_append] at hA
    rw [hA]
    have p161 := congrFun hf9 161
    simp [upd, undef] at p161
    have p170 := congrFun hf9 170
    simp [upd, undef] at p170
    rw [← p161, ← p170]
    clear hf9 hA hlow p161 p170
    go_wp2
    go_meet
    case rel => exact ⟨rfl, below_drewN (Below.refl _ _) _⟩
  case rest =>
    obtain ⟨rfl, hb8⟩ := hcut
    obtain ⟨w8, hw8⟩ : ∃ w8, w8 = wc := ⟨_, rfl⟩
    rw [← hw8] at hb8 ⊢
    clear hw8
    have H8' := Lib.hid (H8.out.below hb8.out)
    have H9' := Lib.hid (H9.out.below hb8.out)
    have HB8 := Lib.hid (below_trans HB7.out hb8.out)
    have HM8 := Lib.hid (bl_below HM7.out hb8.out)
    replace e6 := cell_below hb8.out e6
    have hlb8 := (Nat.lt_of_lt_of_le hlb hb8.out.size)
    clear m0 m1 m2 m3 m4 hlm c0 c1 c2 c4 e0 e5 hla hlb p1 p2 p2' p3 p4 x0 x1' x2 x3 x4 hl8
    obtain ⟨⟨m0, m1, m2, m3, m4⟩, -⟩ := blc5 HM8.out
    have hlm := bl_lt HM8.out
    clear hb8 H8 H9 HB7 HM7
    obtain ⟨g9, cap9, hu9⟩ := H9'.out.row (by omega)
    subst hu9
    obtain ⟨cur9, hcur9, -⟩ := H9'.out.open
    obtain ⟨bq, oq, q', hAq, hq', y0, y1⟩ := (Own.rd H9'.out).qa j hjl2
    cases hAq
    obtain rfl : q' = q := Option.some.inj (hq'.out.symm.trans HQ9.out)
    simp only [Nat.zero_add] at y0 y1
    have fz0 := bl_frozen hcur9 (j * 2)
    have fz1 := bl_frozen hcur9 (j * 2 + 1)
    have hlg := bl_lt hcur9
    have hmod : ∀ f : Acct → Acct, cs.all.modify j f = cs.all.set j (f q') := fun f => by
      apply List.ext_getElem?
      intro i
      rw [get_modify, List.getElem?_set]
      by_cases hji : j = i
      · subst hji
        rw [if_pos rfl, HQ9.out, if_pos rfl, if_pos hjl2]; rfl
      · rw [if_neg hji, if_neg hji]
    have HMOD := Lib.hid hmod
    have hall : (consS cs ⟨sa, se, snow, ⟨(j : Int), lfr, lto, lrd, m'.data⟩, sts⟩).all = (cs.all.set j (outA q')) := by
      rw [HC2.out]
      have hK := HKK.out
      rw [if_neg (by omega), if_pos (.inr hK)]; exact HMOD.out _
    have hsent : (consS cs ⟨sa, se, snow, ⟨(j : Int), lfr, lto, lrd, m'.data⟩, sts⟩).sent = cs.sent := by
      rw [HC2.out]
      have hK := HKK.out
      rw [if_neg (by omega), if_pos (.inr hK)]
    have HALL := Lib.hid hall
    have HSENT := Lib.hid hsent
    clear hall hsent hmod hq'
    have k4 : (sa.k == 4) = false := beq_eq_false_iff_ne.2 (by have := HKK.out; omega)
    have k2 : (sa.k == 2) = false := beq_eq_false_iff_ne.2 (by have := HKK.out; omega)
    have k3 : (sa.k == 3) = true := beq_iff_eq.2 HKK.out
    go_upto_region 32 with fail
    obtain ⟨w11, hw11⟩ : ∃ w11, w11 = w8.setCell ⟨g9, j * 2 + 1, none⟩ (.int .i64 (q'.o + 1)) := ⟨_, rfl⟩
    have K8 : Hid (Own w11 w3.heap.size 33 (.slice (some ⟨b8, o8, none⟩) cs.sent.length c8) cs.sent) := by show Own _ _ _ _ _; rw [hw11]; exact H8'.out.setCell (H8'.out.ne hcur9 (by decide)) _
    have K9 : Hid (Own w11 w3.heap.size 57 (.slice (some ⟨g9, 0, none⟩) cs.all.length cap9) (cs.all.set j (outA q'))) := by show Own _ _ _ _ _; rw [hw11]; exact Own.store H9'.out j 1 q' (outA q') _ (by decide) HQ9.out rfl
    have KM : Hid (w11.heap[wr.heap.size]? = some (.cells #[.int .i64 (j : Int), .int .i64 lfr, .int .i64 lto, .int .i64 lrd, .string m'.data] 33 (0, 0))) := by show _ = _; rw [hw11]; refine bl_far HM8.out ?_ _; exact fun h => H9'.out.ne HM8.out (by decide) (congrArg some h.symm)
    have KB : Hid (Below w3.heap.size w3 w11) := by show Below _ _ _; rw [hw11]; exact HB8.out.setCell (H9'.out.lt g9 rfl).1 _
    rw [← hw11]
    have hgl : g9 < w11.heap.size := by rw [hw11]; simpa [World.setCell] using hlg
    clear hw11 hcur9 y0 y1 fz0 fz1 hlg m0 m1 m2 m3 m4 hlm
    obtain ⟨bq2, oq2, q2, hAq2, hq2, y0, y1⟩ := (Own.rd K9.out).qa j (by simpa using hjl2)
    cases hAq2
    obtain rfl : q2 = outA q' := Option.some.inj (hq2.out.symm.trans (List.getElem?_set_self hjl2))
    simp only [Nat.zero_add, outA] at y0 y1
    have hle : (outA q').o ≤ (outA q').i := by
      obtain ⟨e4, e5, e6⟩ := HQK.out
      have hK := HKK.out
      have hv := e6 (.inr hK)
      simp only [outA]
      omega
    have d2 : decide ((outA q').i < (outA q').o) = false := decide_eq_false (by omega)
    simp only [outA] at d2
    have d3 : decide (q'.i ≤ q'.o) = false := decide_eq_false (by have h := of_decide_eq_false d2; omega)
    obtain ⟨⟨m0, m1, m2, m3, m4⟩, -⟩ := blc5 KM.out
    have hlm := bl_lt KM.out
    clear hle hq2
    go_quiet (fail)
    go_wp2
    · exact absurd ‹q'.i < q'.o + 1› (of_decide_eq_false d2)
    refine ⟨⟨_, st_of 316 (by rfl), k + 1, _, _, by omega, rfl, rfl, rfl, rfl, rfl, by show _ = Value.int .i64 _; go_num, by show Own _ _ _ _ _; rw [HNX.out, HSENT.out]; exact K8.out.drewN _, by show Own _ _ _ _ _; rw [HNX.out, HALL.out]; exact K9.out.drewN _, below_drewN KB.out _⟩, ?_⟩
    show xs.length - (intOf (.int .i64 ((k : Int) + 1))).toNat < xs.length - k
    simp [intOf]; omega
set_option maxHeartbeats 8000000 in
set_option maxRecDepth 100000 in
theorem cons_delay (xs : List Ac) (A : Option Addr) (c : Nat) (A6 : Option Addr) (c6 g5 : Nat) (S : List Sn) (rs : List SnR) (x0 : Nt) (w3 wr : World) (f : Nat → Value) (Q0 : Exit → Act → World → Prop) (k : Nat) (u8 u9 : Value) (hlx : xs.length ≤ 300) (hlk : k < xs.length)
    (HR3 : Hid (Rd w3 A xs)) (HRL : Hid (Rd w3 A6 rs)) (HSS : Hid (Sns w3 rs S)) (HRS : Hid (rs.length = xs.length))
    (HCA : Hid (∀ k, k ≤ xs.length → Ok (playX x0 (xs.take k)) ∧ ConsI k (playX x0 (xs.take k)) (consF ⟨[], []⟩ (S.take k)))) (HSG : Hid (∀ k d, xs[k]? = some d → S[k]? = some (doSR (playX x0 (xs.take k)) d)))
    (h1 : f 1 = .slice A xs.length c) (h5 : f 5 = .pointer (some ⟨g5, 0, none⟩)) (h6 : f 6 = .slice A6 xs.length c6) (h8 : f 8 = u8) (h9 : f 9 = u9) (h10 : f 10 = .int .i64 (k : Int))
    (hO8 : Hid (Own wr w3.heap.size 33 u8 (consF ⟨[], []⟩ (S.take k)).sent)) (hO9 : Hid (Own wr w3.heap.size 57 u9 (consF ⟨[], []⟩ (S.take k)).all)) (hB : Hid (Below w3.heap.size w3 wr))
    (hQ0 : ∀ (d : Option Tmp) (v : Value) c a w, Q0 (.panic c) (a.put d v) w → Q0 (.panic c) a w)
    (hkind : Hid (∀ s, S[k]? = some s → s.e = 0 ∧ s.a.k = 5)) :
    consBody.wp Try.prog (Exit.then (fun a' w' => consI xs A c A6 c6 g5 S w3 a' w' ∧ consMu xs a' w' < consMu xs (st 316 f) wr) Q0) (st 316 f) wr := by
  conv => arg 2; whnf
  have hmu : Hid (consMu xs (st 316 f) wr = xs.length - k) := by
    show _ = _
    unfold consMu
    rw [st_getD (by decide), h10]; rfl
  rw [hmu.out]
  rw [st_all4, h1, h5, h6, h8, h9, h10]
  clear h1 h5 h6 h8 h9 h10
  obtain ⟨ba, oa, d, hAeq, hd, c0, c1, c2, c3, c4⟩ := (HR3.out.below hB.out).ac k hlk
  subst hAeq
  obtain ⟨bb, off, s, ta, tc, hAeq, hs, -, e0, e1, e2, e3, e4, e5, e6, e7, e8, e9, e10, e11, -⟩ := (HRL.out.below hB.out).sn (HSS.out.below hB.out) k (by rw [HRS.out]; exact hlk)
  subst hAeq
  have hba : ba < wr.heap.size := World.block_lt_of_cell? wr _ c0
  have hbt : bb < wr.heap.size := World.block_lt_of_cell? wr _ e0
  obtain ⟨hoy, hcy⟩ := HCA.out k (by omega)
  have hsy : s = doSR (playX x0 (xs.take k)) d := Option.some.inj (hs.out.symm.trans (HSG.out k d hd.out))
  rw [doSR_ok hoy] at hsy
  have hstep := cons_step hoy hcy d
  rw [← hsy] at hstep
  have hsa : s.a = d := by rw [hsy]; exact doS_act _ _
  have hnx : consF ⟨[], []⟩ (S.take (k + 1)) = consS (consF ⟨[], []⟩ (S.take k)) s := by rw [List.take_add_one, hs.out]; exact consF_snoc _ _ _
  obtain ⟨cs, hcs⟩ : ∃ c, c = consF ⟨[], []⟩ (S.take k) := ⟨_, rfl⟩
  rw [← hcs] at hO8 hO9 hcy hstep hnx
  have HNX := Lib.hid hnx
  have HCI := Lib.hid hcy
  have HOK := Lib.hid hstep.1
  have hkd := hkind.out s hs.out
  clear hnx hcs hcy hstep hoy hsy hs hd hkind
  obtain ⟨sa, se, snow, ⟨lid, lfr, lto, lrd, ldt⟩, sts⟩ := s
  simp only at hsa e0 e1 e2 e3 e4 e5 e6 e7 e8 e9 e10 e11
  subst hsa
  go_upto_region 15 with fail
  obtain ⟨w7, hw7⟩ : ∃ w7, w7 = wr.alloc (.cells #[.int .i64 lid, .int .i64 lfr, .int .i64 lto, .int .i64 lrd, .string ldt] 33) := ⟨_, rfl⟩
  have hb7 : Below wr.heap.size wr w7 := by rw [hw7]; exact below_alloc (Below.refl _ _) _
  have hm7 : w7.heap[wr.heap.size]? = some (.cells #[.int .i64 lid, .int .i64 lfr, .int .i64 lto, .int .i64 lrd, .string ldt] 33 (0, 0)) := by rw [hw7]; exact bl_new _ _
  rw [← hw7]
  clear hw7
  have H8 := Lib.hid (hO8.out.below hb7)
  have H9 := Lib.hid (hO9.out.below hb7)
  have HB7 := Lib.hid (below_trans hB.out hb7)
  have HM7 := Lib.hid hm7
  have hla := (Nat.lt_of_lt_of_le hba hb7.size)
  have hlb := (Nat.lt_of_lt_of_le hbt hb7.size)
  replace c0 := cell_below hb7 c0
  replace c1 := cell_below hb7 c1
  replace c2 := cell_below hb7 c2
  replace c4 := cell_below hb7 c4
  replace e0 := cell_below hb7 e0
  replace e5 := cell_below hb7 e5
  replace e6 := cell_below hb7 e6
  obtain ⟨⟨m0, m1, m2, m3, m4⟩, -⟩ := blc5 hm7
  have hlm := bl_lt hm7
  clear hb7 hm7 hO8 hO9 hB hba hbt e1 e2 e3 e4 e7 e8 e9 e10 e11 c3
  simp only at hkd
  obtain ⟨hk0, hkK⟩ := hkd
  have t1 : (se != 0) = false := bne_eq_false_iff_eq.2 hk0
  have t2 : decide (sa.k < 1) = false := decide_eq_false (by omega)
  have t3 : decide (5 < sa.k) = false := decide_eq_false (by omega)
  have hk1 : 1 ≤ sa.k := by omega
  have hk5 : sa.k ≤ 5 := by omega
  have hok := HOK.out hk0 hk1 hk5
  have HKK := Lib.hid hkK
  clear hk0 hkK
  have HCS : Hid (consS cs ⟨sa, se, snow, ⟨lid, lfr, lto, lrd, ldt⟩, sts⟩ = if sa.k = 1 then ⟨cs.sent ++ [⟨lid, lfr, lto, lrd, ldt⟩], cs.all ++ [⟨1, 0⟩]⟩ else if sa.k = 4 then ⟨cs.sent, cs.all.modify lid.toNat incA⟩ else if sa.k = 2 ∨ sa.k = 3 then ⟨cs.sent, cs.all.modify lid.toNat outA⟩ else cs) := by
    show _ = _
    unfold consS
    rw [if_neg (by have := bne_eq_false_iff_eq.1 t1; simp only; omega)]
  have HLA : Hid (cs.all.length = cs.sent.length) := HCI.out.la
  have HLS : Hid (cs.sent.length ≤ 300) := Nat.le_trans HCI.out.ln (by omega)
  clear HOK
  simp only at hok
  have q1 : (sa.k == 1) = false := beq_eq_false_iff_ne.2 (by have := HKK.out; omega)
  have hne1 : ¬ sa.k = 1 := beq_eq_false_iff_ne.1 q1
  have hcs2 := HCS.out.trans (if_neg hne1)
  obtain ⟨g1, -⟩ | ⟨g1, g2, g3, ⟨m, g4, g5, g6, g7⟩, g8, q, g9, g10, g11, g12, g13⟩ := hok
  · exact absurd g1 hne1
  obtain ⟨j, hj⟩ : ∃ j : Nat, lid = j := ⟨lid.toNat, by omega⟩
  subst hj
  rw [Int.toNat_natCast] at g4 g9 hcs2
  have hjl : j < cs.sent.length := by omega
  have hjl2 : j < cs.all.length := by rw [HLA.out]; exact hjl
  subst g7
  have p1 : decide ((j : Int) < 0) = false := decide_eq_false (by omega)
  have p2 : decide (cs.sent.length ≤ j) = false := decide_eq_false (by omega)
  have p2' : decide ((cs.sent.length : Int) ≤ (j : Int)) = false := decide_eq_false (by omega)
  have p3 : (lfr != m.fr) = false := bne_eq_false_iff_eq.2 g5
  have p4 : (lto != m.to) = false := bne_eq_false_iff_eq.2 g6
  have hq0 : 0 ≤ q.o := g10
  have hq1 : q.o ≤ q.i + 1 := by
    obtain h | h | h : sa.k = 4 ∨ sa.k = 5 ∨ (sa.k = 2 ∨ sa.k = 3) := by omega
    · exact g11 h
    · have := g12 h; omega
    · have := g13 h; omega
  have hq2 : q.i ≤ 300 := by have := (HCI.out.bd j q g9).2; omega
  have HC2 := Lib.hid hcs2
  have HM4 := Lib.hid g4
  have HQ9 := Lib.hid g9
  have HQK := Lib.hid (And.intro g11 (And.intro g12 g13))
  have HRD := Lib.hid g8
  clear hcs2 g1 g2 g3 g4 g5 g6 g8 g9 g10 g11 g12 g13 hne1 HCS
  obtain ⟨A8, c8, hu8, -, hR8⟩ := H8.out.slice
  subst hu8
  obtain ⟨b8, o8, m', hA8, hm', x0, x1', x2, x3, x4⟩ := hR8.lt j hjl
  subst hA8
  obtain rfl : m' = m := Option.some.inj (hm'.out.symm.trans HM4.out)
  have hl8 : b8 < w7.heap.size := World.block_lt_of_cell? w7 _ x0
  clear hR8 hm'
  go_upto_region 21 with fail
  go_cut [171] from 129 to 171 (fun s wx => s = .bool false ∧ Hid (Below w7.heap.size w7 wx))
  case first =>
    refine wp_st 316 (by rfl) fun f0 hf0 => ?_
    have iq12 : f0 12 = .pointer (some ⟨wr.heap.size, 0, none⟩) := (hf0 12).trans rfl
    have iq8 : f0 8 = .slice (some ⟨b8, o8, none⟩) cs.sent.length c8 := (hf0 8).trans rfl
    have HF0 := Lib.hid hf0
    clear hf0
    refine wp_mixW [1, 2, 3, 10, 5, 8, 7, 8, 9, 10, 21, 12, 19, 16, 15, 16, 17, 18, 19, 20, 21, 32, 23, 30, 27, 26, 27, 28, 29, 30, 31, 32, 42, 34, 41, 38, 37, 38, 39, 40, 41, 42] [(0, true), (1, true), (2, true), (3, true), (4, true), (5, true), (6, true), (7, true), (8, true), (9, true), (10, true), (11, true), (12, true), (13, true), (14, true), (15, true), (16, true), (17, true), (18, true), (19, true), (20, true), (21, true), (22, true), (23, true), (24, true), (25, true), (26, true), (27, true), (28, true), (29, true), (30, true), (31, true), (32, true), (33, true), (34, true), (35, true), (36, true), (37, true), (38, true), (39, true), (40, true), (41, true)] 42
      (fun w' => Below w7.heap.size w7 w')
      (by kernel_rfl) (by kernel_rfl) (by kernel_rfl) (by kernel_rfl) (by kernel_rfl) (fun d v c a w h => hQ0 d v c a w h) (Below.refl _ _).drew ?_
    intro ops K Q1 hops HK
    have o_3 := hops.out 3 _ rfl
    have o_10 := hops.out 10 _ rfl
    have o_21 := hops.out 21 _ rfl
    have o_32 := hops.out 32 _ rfl
    clear hops
    simp only [pick, List.map_cons, List.map_nil, List.getD_cons_zero, List.getD_cons_succ, List.drop_succ_cons, List.drop_zero]
    apply mixS_take (i := 129) rfl (by decide) (want_none rfl)
    case hy => intro W' hW'; obtain ⟨hwc, -⟩ := bcell hW'; simp only [execOp, st_eval, st_const, st_func, upd, Nat.reduceLT, Nat.reduceEqDiff, if_true, if_false, ite_true, ite_false, reduceIte, iq12, iq8, List.map_toArray, List.map_cons, List.map_nil]; (try go_simp); try rfl
    apply mixS_take (i := 130) rfl (by decide) (want_none rfl)
    case hy => intro W' hW'; obtain ⟨hwc, -⟩ := bcell hW'; simp only [execOp, st_eval, st_const, st_func, upd, Nat.reduceLT, Nat.reduceEqDiff, if_true, if_false, ite_true, ite_false, reduceIte, iq12, iq8, List.map_toArray, List.map_cons, List.map_nil]; (try go_simp); try rfl
    apply mixS_take (i := 131) rfl (by decide) (want_none rfl)
    case hy => intro W' hW'; obtain ⟨hwc, -⟩ := bcell hW'; simp only [execOp, st_eval, st_const, st_func, upd, Nat.reduceLT, Nat.reduceEqDiff, if_true, if_false, ite_true, ite_false, reduceIte, iq12, iq8, List.map_toArray, List.map_cons, List.map_nil]; (try go_simp); try rfl
    apply mixS_take (i := 132) rfl (by decide) (want_none rfl)
    case hy => intro W' hW'; obtain ⟨hwc, -⟩ := bcell hW'; simp only [execOp, st_eval, st_const, st_func, upd, Nat.reduceLT, Nat.reduceEqDiff, if_true, if_false, ite_true, ite_false, reduceIte, iq12, iq8, List.map_toArray, List.map_cons, List.map_nil]; (try go_simp); try rfl
    apply mixS_take (i := 133) rfl (by decide) (want_st (j := 3) (i := 132) rfl o_3 rfl (by decide) (by first | rfl | simp [upd, *]))
    case hy => intro W' hW'; obtain ⟨hwc, -⟩ := bcell hW'; simp only [execOp, st_eval, st_const, st_func, upd, Nat.reduceLT, Nat.reduceEqDiff, if_true, if_false, ite_true, ite_false, reduceIte, iq12, iq8, List.map_toArray, List.map_cons, List.map_nil]; (try go_simp); try rfl
    apply mixS_take (i := 134) rfl (by decide) (want_st (j := 3) (i := 132) rfl o_3 rfl (by decide) (by first | rfl | simp [upd, *]))
    case hy => intro W' hW'; obtain ⟨hwc, -⟩ := bcell hW'; simp only [execOp, st_eval, st_const, st_func, upd, Nat.reduceLT, Nat.reduceEqDiff, if_true, if_false, ite_true, ite_false, reduceIte, iq12, iq8, List.map_toArray, List.map_cons, List.map_nil]; (try go_simp); try rfl
    apply mixS_take (i := 135) rfl (by decide) (want_st (j := 3) (i := 132) rfl o_3 rfl (by decide) (by first | rfl | simp [upd, *]))
    case hy => intro W' hW'; obtain ⟨hwc, -⟩ := bcell hW'; simp only [execOp, st_eval, st_const, st_func, upd, Nat.reduceLT, Nat.reduceEqDiff, if_true, if_false, ite_true, ite_false, reduceIte, iq12, iq8, List.map_toArray, List.map_cons, List.map_nil]; (try go_simp); try rfl
    apply mixS_take (i := 136) rfl (by decide) (want_st (j := 3) (i := 132) rfl o_3 rfl (by decide) (by first | rfl | simp [upd, *]))
    case hy => intro W' hW'; obtain ⟨hwc, -⟩ := bcell hW'; simp only [execOp, st_eval, st_const, st_func, upd, Nat.reduceLT, Nat.reduceEqDiff, if_true, if_false, ite_true, ite_false, reduceIte, iq12, iq8, List.map_toArray, List.map_cons, List.map_nil]; (try go_simp); try rfl
    apply mixS_take (i := 137) rfl (by decide) (want_st (j := 3) (i := 132) rfl o_3 rfl (by decide) (by first | rfl | simp [upd, *]))
    case hy => intro W' hW'; obtain ⟨hwc, -⟩ := bcell hW'; simp only [execOp, st_eval, st_const, st_func, upd, Nat.reduceLT, Nat.reduceEqDiff, if_true, if_false, ite_true, ite_false, reduceIte, iq12, iq8, List.map_toArray, List.map_cons, List.map_nil]; (try go_simp); try rfl
    apply mixS_take (i := 138) rfl (by decide) (want_none rfl)
    case hy => intro W' hW'; obtain ⟨hwc, -⟩ := bcell hW'; simp only [execOp, st_eval, st_const, st_func, upd, Nat.reduceLT, Nat.reduceEqDiff, if_true, if_false, ite_true, ite_false, reduceIte, iq12, iq8, List.map_toArray, List.map_cons, List.map_nil]; (try go_simp); try rfl
    apply mixS_take (i := 139) rfl (by decide) (want_none rfl)
    case hy => intro W' hW'; obtain ⟨hwc, -⟩ := bcell hW'; simp only [execOp, st_eval, st_const, st_func, upd, Nat.reduceLT, Nat.reduceEqDiff, if_true, if_false, ite_true, ite_false, reduceIte, iq12, iq8, List.map_toArray, List.map_cons, List.map_nil]; (try go_simp); try rfl
    apply mixS_take (i := 140) rfl (by decide) (want_st (j := 10) (i := 139) rfl o_10 rfl (by decide) (by first | rfl | simp [upd, *]))
    case hy => intro W' hW'; obtain ⟨hwc, -⟩ := bcell hW'; simp only [execOp, st_eval, st_const, st_func, upd, Nat.reduceLT, Nat.reduceEqDiff, if_true, if_false, ite_true, ite_false, reduceIte, iq12, iq8, List.map_toArray, List.map_cons, List.map_nil]; (try go_simp); try rfl
    apply mixS_take (i := 141) rfl (by decide) (want_st (j := 10) (i := 139) rfl o_10 rfl (by decide) (by first | rfl | simp [upd, *]))
    case hy => intro W' hW'; obtain ⟨hwc, -⟩ := bcell hW'; simp only [execOp, st_eval, st_const, st_func, upd, Nat.reduceLT, Nat.reduceEqDiff, if_true, if_false, ite_true, ite_false, reduceIte, iq12, iq8, List.map_toArray, List.map_cons, List.map_nil]; (try go_simp); try rfl
    apply mixS_take (i := 142) rfl (by decide) (want_st (j := 10) (i := 139) rfl o_10 rfl (by decide) (by first | rfl | simp [upd, *]))
    case hy => intro W' hW'; obtain ⟨hwc, -⟩ := bcell hW'; simp only [execOp, st_eval, st_const, st_func, upd, Nat.reduceLT, Nat.reduceEqDiff, if_true, if_false, ite_true, ite_false, reduceIte, iq12, iq8, List.map_toArray, List.map_cons, List.map_nil]; (try go_simp); try rfl
    apply mixS_take (i := 143) rfl (by decide) (want_st (j := 10) (i := 139) rfl o_10 rfl (by decide) (by first | rfl | simp [upd, *]))
    case hy => intro W' hW'; obtain ⟨hwc, -⟩ := bcell hW'; simp only [execOp, st_eval, st_const, st_func, upd, Nat.reduceLT, Nat.reduceEqDiff, if_true, if_false, ite_true, ite_false, reduceIte, iq12, iq8, List.map_toArray, List.map_cons, List.map_nil]; (try go_simp); try rfl
    apply mixS_take (i := 144) rfl (by decide) (want_st (j := 10) (i := 139) rfl o_10 rfl (by decide) (by first | rfl | simp [upd, *]))
    case hy => intro W' hW'; obtain ⟨hwc, -⟩ := bcell hW'; simp only [execOp, st_eval, st_const, st_func, upd, Nat.reduceLT, Nat.reduceEqDiff, if_true, if_false, ite_true, ite_false, reduceIte, iq12, iq8, List.map_toArray, List.map_cons, List.map_nil]; (try go_simp); try rfl
    apply mixS_take (i := 145) rfl (by decide) (want_st (j := 10) (i := 139) rfl o_10 rfl (by decide) (by first | rfl | simp [upd, *]))
    case hy => intro W' hW'; obtain ⟨hwc, -⟩ := bcell hW'; simp only [execOp, st_eval, st_const, st_func, upd, Nat.reduceLT, Nat.reduceEqDiff, if_true, if_false, ite_true, ite_false, reduceIte, iq12, iq8, List.map_toArray, List.map_cons, List.map_nil]; (try go_simp); try rfl
    apply mixS_take (i := 146) rfl (by decide) (want_st (j := 10) (i := 139) rfl o_10 rfl (by decide) (by first | rfl | simp [upd, *]))
    case hy => intro W' hW'; obtain ⟨hwc, -⟩ := bcell hW'; simp only [execOp, st_eval, st_const, st_func, upd, Nat.reduceLT, Nat.reduceEqDiff, if_true, if_false, ite_true, ite_false, reduceIte, iq12, iq8, List.map_toArray, List.map_cons, List.map_nil]; (try go_simp); try rfl
    apply mixS_take (i := 147) rfl (by decide) (want_st (j := 10) (i := 139) rfl o_10 rfl (by decide) (by first | rfl | simp [upd, *]))
    case hy => intro W' hW'; obtain ⟨hwc, -⟩ := bcell hW'; simp only [execOp, st_eval, st_const, st_func, upd, Nat.reduceLT, Nat.reduceEqDiff, if_true, if_false, ite_true, ite_false, reduceIte, iq12, iq8, List.map_toArray, List.map_cons, List.map_nil]; (try go_simp); try rfl
    apply mixS_take (i := 148) rfl (by decide) (want_st (j := 10) (i := 139) rfl o_10 rfl (by decide) (by first | rfl | simp [upd, *]))
    case hy => intro W' hW'; obtain ⟨hwc, -⟩ := bcell hW'; simp only [execOp, st_eval, st_const, st_func, upd, Nat.reduceLT, Nat.reduceEqDiff, if_true, if_false, ite_true, ite_false, reduceIte, iq12, iq8, List.map_toArray, List.map_cons, List.map_nil]; (try go_simp); try rfl
    apply mixS_take (i := 149) rfl (by decide) (want_none rfl)
    case hy => intro W' hW'; obtain ⟨hwc, -⟩ := bcell hW'; simp only [execOp, st_eval, st_const, st_func, upd, Nat.reduceLT, Nat.reduceEqDiff, if_true, if_false, ite_true, ite_false, reduceIte, iq12, iq8, List.map_toArray, List.map_cons, List.map_nil]; (try go_simp); try rfl
    apply mixS_take (i := 150) rfl (by decide) (want_none rfl)
    case hy => intro W' hW'; obtain ⟨hwc, -⟩ := bcell hW'; simp only [execOp, st_eval, st_const, st_func, upd, Nat.reduceLT, Nat.reduceEqDiff, if_true, if_false, ite_true, ite_false, reduceIte, iq12, iq8, List.map_toArray, List.map_cons, List.map_nil]; (try go_simp); try rfl
    apply mixS_take (i := 151) rfl (by decide) (want_st (j := 21) (i := 150) rfl o_21 rfl (by decide) (by first | rfl | simp [upd, *]))
    case hy => intro W' hW'; obtain ⟨hwc, -⟩ := bcell hW'; simp only [execOp, st_eval, st_const, st_func, upd, Nat.reduceLT, Nat.reduceEqDiff, if_true, if_false, ite_true, ite_false, reduceIte, iq12, iq8, List.map_toArray, List.map_cons, List.map_nil]; (try go_simp); try rfl
    apply mixS_take (i := 152) rfl (by decide) (want_st (j := 21) (i := 150) rfl o_21 rfl (by decide) (by first | rfl | simp [upd, *]))
    case hy => intro W' hW'; obtain ⟨hwc, -⟩ := bcell hW'; simp only [execOp, st_eval, st_const, st_func, upd, Nat.reduceLT, Nat.reduceEqDiff, if_true, if_false, ite_true, ite_false, reduceIte, iq12, iq8, List.map_toArray, List.map_cons, List.map_nil]; (try go_simp); try rfl
    apply mixS_take (i := 153) rfl (by decide) (want_st (j := 21) (i := 150) rfl o_21 rfl (by decide) (by first | rfl | simp [upd, *]))
    case hy => intro W' hW'; obtain ⟨hwc, -⟩ := bcell hW'; simp only [execOp, st_eval, st_const, st_func, upd, Nat.reduceLT, Nat.reduceEqDiff, if_true, if_false, ite_true, ite_false, reduceIte, iq12, iq8, List.map_toArray, List.map_cons, List.map_nil]; (try go_simp); try rfl
    apply mixS_take (i := 154) rfl (by decide) (want_st (j := 21) (i := 150) rfl o_21 rfl (by decide) (by first | rfl | simp [upd, *]))
    case hy => intro W' hW'; obtain ⟨hwc, -⟩ := bcell hW'; simp only [execOp, st_eval, st_const, st_func, upd, Nat.reduceLT, Nat.reduceEqDiff, if_true, if_false, ite_true, ite_false, reduceIte, iq12, iq8, List.map_toArray, List.map_cons, List.map_nil]; (try go_simp); try rfl
    apply mixS_take (i := 155) rfl (by decide) (want_st (j := 21) (i := 150) rfl o_21 rfl (by decide) (by first | rfl | simp [upd, *]))
    case hy => intro W' hW'; obtain ⟨hwc, -⟩ := bcell hW'; simp only [execOp, st_eval, st_const, st_func, upd, Nat.reduceLT, Nat.reduceEqDiff, if_true, if_false, ite_true, ite_false, reduceIte, iq12, iq8, List.map_toArray, List.map_cons, List.map_nil]; (try go_simp); try rfl
    apply mixS_take (i := 156) rfl (by decide) (want_st (j := 21) (i := 150) rfl o_21 rfl (by decide) (by first | rfl | simp [upd, *]))
    case hy => intro W' hW'; obtain ⟨hwc, -⟩ := bcell hW'; simp only [execOp, st_eval, st_const, st_func, upd, Nat.reduceLT, Nat.reduceEqDiff, if_true, if_false, ite_true, ite_false, reduceIte, iq12, iq8, List.map_toArray, List.map_cons, List.map_nil]; (try go_simp); try rfl
    apply mixS_take (i := 157) rfl (by decide) (want_st (j := 21) (i := 150) rfl o_21 rfl (by decide) (by first | rfl | simp [upd, *]))
    case hy => intro W' hW'; obtain ⟨hwc, -⟩ := bcell hW'; simp only [execOp, st_eval, st_const, st_func, upd, Nat.reduceLT, Nat.reduceEqDiff, if_true, if_false, ite_true, ite_false, reduceIte, iq12, iq8, List.map_toArray, List.map_cons, List.map_nil]; (try go_simp); try rfl
    apply mixS_take (i := 158) rfl (by decide) (want_st (j := 21) (i := 150) rfl o_21 rfl (by decide) (by first | rfl | simp [upd, *]))
    case hy => intro W' hW'; obtain ⟨hwc, -⟩ := bcell hW'; simp only [execOp, st_eval, st_const, st_func, upd, Nat.reduceLT, Nat.reduceEqDiff, if_true, if_false, ite_true, ite_false, reduceIte, iq12, iq8, List.map_toArray, List.map_cons, List.map_nil]; (try go_simp); try rfl
    apply mixS_take (i := 159) rfl (by decide) (want_st (j := 21) (i := 150) rfl o_21 rfl (by decide) (by first | rfl | simp [upd, *]))
    case hy => intro W' hW'; obtain ⟨hwc, -⟩ := bcell hW'; simp only [execOp, st_eval, st_const, st_func, upd, Nat.reduceLT, Nat.reduceEqDiff, if_true, if_false, ite_true, ite_false, reduceIte, iq12, iq8, List.map_toArray, List.map_cons, List.map_nil]; (try go_simp); try rfl
    apply mixS_take (i := 160) rfl (by decide) (want_none rfl)
    case hy => intro W' hW'; obtain ⟨hwc, -⟩ := bcell hW'; simp only [execOp, st_eval, st_const, st_func, upd, Nat.reduceLT, Nat.reduceEqDiff, if_true, if_false, ite_true, ite_false, reduceIte, iq12, iq8, List.map_toArray, List.map_cons, List.map_nil]; (try go_simp); try rfl
    apply mixS_take (i := 161) rfl (by decide) (want_none rfl)
    case hy => intro W' hW'; obtain ⟨hwc, -⟩ := bcell hW'; simp only [execOp, st_eval, st_const, st_func, upd, Nat.reduceLT, Nat.reduceEqDiff, if_true, if_false, ite_true, ite_false, reduceIte, iq12, iq8, List.map_toArray, List.map_cons, List.map_nil]; (try go_simp); try rfl
    apply mixS_take (i := 162) rfl (by decide) (want_st (j := 32) (i := 161) rfl o_32 rfl (by decide) (by first | rfl | simp [upd, *]))
    case hy => intro W' hW'; obtain ⟨hwc, -⟩ := bcell hW'; simp only [execOp, st_eval, st_const, st_func, upd, Nat.reduceLT, Nat.reduceEqDiff, if_true, if_false, ite_true, ite_false, reduceIte, iq12, iq8, List.map_toArray, List.map_cons, List.map_nil]; (try go_simp); try rfl
    apply mixS_take (i := 163) rfl (by decide) (want_st (j := 32) (i := 161) rfl o_32 rfl (by decide) (by first | rfl | simp [upd, *]))
    case hy => intro W' hW'; obtain ⟨hwc, -⟩ := bcell hW'; simp only [execOp, st_eval, st_const, st_func, upd, Nat.reduceLT, Nat.reduceEqDiff, if_true, if_false, ite_true, ite_false, reduceIte, iq12, iq8, List.map_toArray, List.map_cons, List.map_nil]; (try go_simp); try rfl
    apply mixS_take (i := 164) rfl (by decide) (want_st (j := 32) (i := 161) rfl o_32 rfl (by decide) (by first | rfl | simp [upd, *]))
    case hy => intro W' hW'; obtain ⟨hwc, -⟩ := bcell hW'; simp only [execOp, st_eval, st_const, st_func, upd, Nat.reduceLT, Nat.reduceEqDiff, if_true, if_false, ite_true, ite_false, reduceIte, iq12, iq8, List.map_toArray, List.map_cons, List.map_nil]; (try go_simp); try rfl
    apply mixS_take (i := 165) rfl (by decide) (want_st (j := 32) (i := 161) rfl o_32 rfl (by decide) (by first | rfl | simp [upd, *]))
    case hy => intro W' hW'; obtain ⟨hwc, -⟩ := bcell hW'; simp only [execOp, st_eval, st_const, st_func, upd, Nat.reduceLT, Nat.reduceEqDiff, if_true, if_false, ite_true, ite_false, reduceIte, iq12, iq8, List.map_toArray, List.map_cons, List.map_nil]; (try go_simp); try rfl
    apply mixS_take (i := 166) rfl (by decide) (want_st (j := 32) (i := 161) rfl o_32 rfl (by decide) (by first | rfl | simp [upd, *]))
    case hy => intro W' hW'; obtain ⟨hwc, -⟩ := bcell hW'; simp only [execOp, st_eval, st_const, st_func, upd, Nat.reduceLT, Nat.reduceEqDiff, if_true, if_false, ite_true, ite_false, reduceIte, iq12, iq8, List.map_toArray, List.map_cons, List.map_nil]; (try go_simp); try rfl
    apply mixS_take (i := 167) rfl (by decide) (want_st (j := 32) (i := 161) rfl o_32 rfl (by decide) (by first | rfl | simp [upd, *]))
    case hy => intro W' hW'; obtain ⟨hwc, -⟩ := bcell hW'; simp only [execOp, st_eval, st_const, st_func, upd, Nat.reduceLT, Nat.reduceEqDiff, if_true, if_false, ite_true, ite_false, reduceIte, iq12, iq8, List.map_toArray, List.map_cons, List.map_nil]; (try go_simp); try rfl
    apply mixS_take (i := 168) rfl (by decide) (want_st (j := 32) (i := 161) rfl o_32 rfl (by decide) (by first | rfl | simp [upd, *]))
    case hy => intro W' hW'; obtain ⟨hwc, -⟩ := bcell hW'; simp only [execOp, st_eval, st_const, st_func, upd, Nat.reduceLT, Nat.reduceEqDiff, if_true, if_false, ite_true, ite_false, reduceIte, iq12, iq8, List.map_toArray, List.map_cons, List.map_nil]; (try go_simp); try rfl
    apply mixS_take (i := 169) rfl (by decide) (want_st (j := 32) (i := 161) rfl o_32 rfl (by decide) (by first | rfl | simp [upd, *]))
    case hy => intro W' hW'; obtain ⟨hwc, -⟩ := bcell hW'; simp only [execOp, st_eval, st_const, st_func, upd, Nat.reduceLT, Nat.reduceEqDiff, if_true, if_false, ite_true, ite_false, reduceIte, iq12, iq8, List.map_toArray, List.map_cons, List.map_nil]; (try go_simp); try rfl
    apply mixS_take (i := 170) rfl (by decide) (want_st (j := 32) (i := 161) rfl o_32 rfl (by decide) (by first | rfl | simp [upd, *]))
    case hy => intro W' hW'; obtain ⟨hwc, -⟩ := bcell hW'; simp only [execOp, st_eval, st_const, st_func, upd, Nat.reduceLT, Nat.reduceEqDiff, if_true, if_false, ite_true, ite_false, reduceIte, iq12, iq8, List.map_toArray, List.map_cons, List.map_nil]; (try go_simp); try rfl
    refine mix_nil (HK.out _ _ ?_)
    generalize hf9 : upd _ _ _ = f9
    have hlow : ∀ j, j < 129 ∨ 172 ≤ j → f9 j = f0 j := fun j hj => by rw [← hf9]; repeat (rw [upd_ne (by omega)])
    have hA := st_lit21 f9 _ (by rfl) (fun j hj => (hlow j hj).trans (HF0.out j))
    simp only [List.take_succ_cons, List.take_zero, List.drop_succ_cons, List.drop_zero, List.cons_append, List.nil_append] at hA
    rw [hA]
    have p161 := congrFun hf9 161
    simp [upd, undef] at p161
    have p170 := congrFun hf9 170
    simp [upd, undef] at p170
    rw [← p161, ← p170]
    clear hf9 hA hlow p161 p170
    go_wp2
    go_meet
    case rel => exact ⟨rfl, below_drewN (Below.refl _ _) _⟩
  case rest =>
    obtain ⟨rfl, hb8⟩ := hcut
    obtain ⟨w8, hw8⟩ : ∃ w8, w8 = wc := ⟨_, rfl⟩
    rw [← hw8] at hb8 ⊢
    clear hw8
    have H8' := Lib.hid (H8.out.below hb8.out)
    have H9' := Lib.hid (H9.out.below hb8.out)
    have HB8 := Lib.hid (below_trans HB7.out hb8.out)
    have HM8 := Lib.hid (bl_below HM7.out hb8.out)
    replace e6 := cell_below hb8.out e6
    have hlb8 := (Nat.lt_of_lt_of_le hlb hb8.out.size)
    clear m0 m1 m2 m3 m4 hlm c0 c1 c2 c4 e0 e5 hla hlb p1 p2 p2' p3 p4 x0 x1' x2 x3 x4 hl8
    obtain ⟨⟨m0, m1, m2, m3, m4⟩, -⟩ := blc5 HM8.out
    have hlm := bl_lt HM8.out
    clear hb8 H8 H9 HB7 HM7
    obtain ⟨g9, cap9, hu9⟩ := H9'.out.row (by omega)
    subst hu9
    obtain ⟨cur9, hcur9, -⟩ := H9'.out.open
    obtain ⟨bq, oq, q', hAq, hq', y0, y1⟩ := (Own.rd H9'.out).qa j hjl2
    cases hAq
    obtain rfl : q' = q := Option.some.inj (hq'.out.symm.trans HQ9.out)
    simp only [Nat.zero_add] at y0 y1
    have fz0 := bl_frozen hcur9 (j * 2)
    have fz1 := bl_frozen hcur9 (j * 2 + 1)
    have hlg := bl_lt hcur9
    have hmod : ∀ f : Acct → Acct, cs.all.modify j f = cs.all.set j (f q') := fun f => by
      apply List.ext_getElem?
      intro i
      rw [get_modify, List.getElem?_set]
      by_cases hji : j = i
      · subst hji
        rw [if_pos rfl, HQ9.out, if_pos rfl, if_pos hjl2]; rfl
      · rw [if_neg hji, if_neg hji]
    have HMOD := Lib.hid hmod
    have hall : (consS cs ⟨sa, se, snow, ⟨(j : Int), lfr, lto, lrd, m'.data⟩, sts⟩).all = cs.all := by
      rw [HC2.out]
      have hK := HKK.out
      rw [if_neg (by omega), if_neg (by omega)]
    have hsent : (consS cs ⟨sa, se, snow, ⟨(j : Int), lfr, lto, lrd, m'.data⟩, sts⟩).sent = cs.sent := by
      rw [HC2.out]
      have hK := HKK.out
      rw [if_neg (by omega), if_neg (by omega)]
    have HALL := Lib.hid hall
    have HSENT := Lib.hid hsent
    clear hall hsent hmod hq'
    have k4 : (sa.k == 4) = false := beq_eq_false_iff_ne.2 (by have := HKK.out; omega)
    have k2 : (sa.k == 2) = false := beq_eq_false_iff_ne.2 (by have := HKK.out; omega)
    have k3 : (sa.k == 3) = false := beq_eq_false_iff_ne.2 (by have := HKK.out; omega)
    have k5 : (sa.k == 5) = true := beq_iff_eq.2 HKK.out
    go_upto_region 32 with fail
    obtain ⟨w11, hw11⟩ : ∃ w11, w11 = w8 := ⟨_, rfl⟩
    have K8 : Hid (Own w11 w3.heap.size 33 (.slice (some ⟨b8, o8, none⟩) cs.sent.length c8) cs.sent) := by rw [hw11]; exact H8'
    have K9 : Hid (Own w11 w3.heap.size 57 (.slice (some ⟨g9, 0, none⟩) cs.all.length cap9) cs.all) := by rw [hw11]; exact H9'
    have KM : Hid (w11.heap[wr.heap.size]? = some (.cells #[.int .i64 (j : Int), .int .i64 lfr, .int .i64 lto, .int .i64 lrd, .string m'.data] 33 (0, 0))) := by rw [hw11]; exact HM8
    have KB : Hid (Below w3.heap.size w3 w11) := by rw [hw11]; exact HB8
    rw [← hw11]
    have hgl : g9 < w11.heap.size := by rw [hw11]; exact hlg
    clear hw11 hcur9 y0 y1 fz0 fz1 hlg m0 m1 m2 m3 m4 hlm
    obtain ⟨bq2, oq2, q2, hAq2, hq2, y0, y1⟩ := (Own.rd K9.out).qa j hjl2
    cases hAq2
    obtain rfl : q' = q2 := Option.some.inj (HQ9.out.symm.trans hq2.out)
    simp only [Nat.zero_add] at y0 y1
    have hle : (q').o ≤ (q').i := by
      obtain ⟨e4, e5, e6⟩ := HQK.out
      have hK := HKK.out
      have hv := e5 hK
      skip
      omega
    have d2 : decide ((q').i < (q').o) = false := decide_eq_false (by omega)
    skip
    skip
    obtain ⟨⟨m0, m1, m2, m3, m4⟩, -⟩ := blc5 KM.out
    have hlm := bl_lt KM.out
    clear hle hq2
    go_quiet (fail)
    go_wp2
    refine ⟨⟨_, st_of 316 (by rfl), k + 1, _, _, by omega, rfl, rfl, rfl, rfl, rfl, by show _ = Value.int .i64 _; go_num, by show Own _ _ _ _ _; rw [HNX.out, HSENT.out]; exact K8.out.drewN _, by show Own _ _ _ _ _; rw [HNX.out, HALL.out]; exact K9.out.drewN _, below_drewN KB.out _⟩, ?_⟩
    show xs.length - (intOf (.int .i64 ((k : Int) + 1))).toNat < xs.length - k
    simp [intOf]; omega
set_option maxHeartbeats 8000000 in
set_option maxRecDepth 100000 in
theorem cons_skip (xs : List Ac) (A : Option Addr) (c : Nat) (A6 : Option Addr) (c6 g5 : Nat) (S : List Sn) (rs : List SnR) (x0 : Nt) (w3 wr : World) (f : Nat → Value) (Q0 : Exit → Act → World → Prop) (k : Nat) (u8 u9 : Value) (hlx : xs.length ≤ 300) (hlk : k < xs.length)
    (HR3 : Hid (Rd w3 A xs)) (HRL : Hid (Rd w3 A6 rs)) (HSS : Hid (Sns w3 rs S)) (HRS : Hid (rs.length = xs.length))
    (HCA : Hid (∀ k, k ≤ xs.length → Ok (playX x0 (xs.take k)) ∧ ConsI k (playX x0 (xs.take k)) (consF ⟨[], []⟩ (S.take k)))) (HSG : Hid (∀ k d, xs[k]? = some d → S[k]? = some (doSR (playX x0 (xs.take k)) d)))
    (h1 : f 1 = .slice A xs.length c) (h5 : f 5 = .pointer (some ⟨g5, 0, none⟩)) (h6 : f 6 = .slice A6 xs.length c6) (h8 : f 8 = u8) (h9 : f 9 = u9) (h10 : f 10 = .int .i64 (k : Int))
    (hO8 : Hid (Own wr w3.heap.size 33 u8 (consF ⟨[], []⟩ (S.take k)).sent)) (hO9 : Hid (Own wr w3.heap.size 57 u9 (consF ⟨[], []⟩ (S.take k)).all)) (hB : Hid (Below w3.heap.size w3 wr))
    (hQ0 : ∀ (d : Option Tmp) (v : Value) c a w, Q0 (.panic c) (a.put d v) w → Q0 (.panic c) a w)
    (hkind : Hid (∀ s, S[k]? = some s → s.e ≠ 0 ∨ s.a.k < 1 ∨ 5 < s.a.k)) :
    consBody.wp Try.prog (Exit.then (fun a' w' => consI xs A c A6 c6 g5 S w3 a' w' ∧ consMu xs a' w' < consMu xs (st 316 f) wr) Q0) (st 316 f) wr := by
  conv => arg 2; whnf
  have hmu : Hid (consMu xs (st 316 f) wr = xs.length - k) := by
    show _ = _
    unfold consMu
    rw [st_getD (by decide), h10]; rfl
  rw [hmu.out]
  rw [st_all4, h1, h5, h6, h8, h9, h10]
  clear h1 h5 h6 h8 h9 h10
  obtain ⟨ba, oa, d, hAeq, hd, c0, c1, c2, c3, c4⟩ := (HR3.out.below hB.out).ac k hlk
  subst hAeq
  obtain ⟨bb, off, s, ta, tc, hAeq, hs, -, e0, e1, e2, e3, e4, e5, e6, e7, e8, e9, e10, e11, -⟩ := (HRL.out.below hB.out).sn (HSS.out.below hB.out) k (by rw [HRS.out]; exact hlk)
  subst hAeq
  have hba : ba < wr.heap.size := World.block_lt_of_cell? wr _ c0
  have hbt : bb < wr.heap.size := World.block_lt_of_cell? wr _ e0
  obtain ⟨hoy, hcy⟩ := HCA.out k (by omega)
  have hsy : s = doSR (playX x0 (xs.take k)) d := Option.some.inj (hs.out.symm.trans (HSG.out k d hd.out))
  rw [doSR_ok hoy] at hsy
  have hstep := cons_step hoy hcy d
  rw [← hsy] at hstep
  have hsa : s.a = d := by rw [hsy]; exact doS_act _ _
  have hnx : consF ⟨[], []⟩ (S.take (k + 1)) = consS (consF ⟨[], []⟩ (S.take k)) s := by rw [List.take_add_one, hs.out]; exact consF_snoc _ _ _
  obtain ⟨cs, hcs⟩ : ∃ c, c = consF ⟨[], []⟩ (S.take k) := ⟨_, rfl⟩
  rw [← hcs] at hO8 hO9 hcy hstep hnx
  have HNX := Lib.hid hnx
  have HCI := Lib.hid hcy
  have HOK := Lib.hid hstep.1
  have hkd := hkind.out s hs.out
  clear hnx hcs hcy hstep hoy hsy hs hd hkind
  obtain ⟨sa, se, snow, ⟨lid, lfr, lto, lrd, ldt⟩, sts⟩ := s
  simp only at hsa e0 e1 e2 e3 e4 e5 e6 e7 e8 e9 e10 e11
  subst hsa
  go_upto_region 15 with fail
  obtain ⟨w7, hw7⟩ : ∃ w7, w7 = wr.alloc (.cells #[.int .i64 lid, .int .i64 lfr, .int .i64 lto, .int .i64 lrd, .string ldt] 33) := ⟨_, rfl⟩
  have hb7 : Below wr.heap.size wr w7 := by rw [hw7]; exact below_alloc (Below.refl _ _) _
  have hm7 : w7.heap[wr.heap.size]? = some (.cells #[.int .i64 lid, .int .i64 lfr, .int .i64 lto, .int .i64 lrd, .string ldt] 33 (0, 0)) := by rw [hw7]; exact bl_new _ _
  rw [← hw7]
  clear hw7
  have H8 := Lib.hid (hO8.out.below hb7)
  have H9 := Lib.hid (hO9.out.below hb7)
  have HB7 := Lib.hid (below_trans hB.out hb7)
  have HM7 := Lib.hid hm7
  have hla := (Nat.lt_of_lt_of_le hba hb7.size)
  have hlb := (Nat.lt_of_lt_of_le hbt hb7.size)
  replace c0 := cell_below hb7 c0
  replace c1 := cell_below hb7 c1
  replace c2 := cell_below hb7 c2
  replace c4 := cell_below hb7 c4
  replace e0 := cell_below hb7 e0
  replace e5 := cell_below hb7 e5
  replace e6 := cell_below hb7 e6
  obtain ⟨⟨m0, m1, m2, m3, m4⟩, -⟩ := blc5 hm7
  have hlm := bl_lt hm7
  clear hb7 hm7 hO8 hO9 hB hba hbt e1 e2 e3 e4 e7 e8 e9 e10 e11 c3
  simp only at hkd
  have hsk : Hid (consS cs ⟨sa, se, snow, ⟨lid, lfr, lto, lrd, ldt⟩, sts⟩ = cs) := by show _ = _; unfold consS; rw [if_pos hkd]
  have fin8 : Hid (Own w7 w3.heap.size 33 u8 (consF ⟨[], []⟩ (S.take (k + 1))).sent) := by show Own _ _ _ _ _; rw [HNX.out, hsk.out]; exact H8.out
  have fin9 : Hid (Own w7 w3.heap.size 57 u9 (consF ⟨[], []⟩ (S.take (k + 1))).all) := by show Own _ _ _ _ _; rw [HNX.out, hsk.out]; exact H9.out
  cases t1 : (se != 0)
  rotate_left 1
  · go_wp2
    refine ⟨⟨_, st_of 316 (by rfl), k + 1, _, _, by omega, rfl, rfl, rfl, rfl, rfl, by show _ = Value.int .i64 _; go_num, fin8, fin9, HB7⟩, ?_⟩
    show xs.length - (intOf (.int .i64 ((k : Int) + 1))).toNat < xs.length - k
    simp [intOf]; omega
  cases t2 : decide (sa.k < 1)
  rotate_left 1
  · go_wp2
    refine ⟨⟨_, st_of 316 (by rfl), k + 1, _, _, by omega, rfl, rfl, rfl, rfl, rfl, by show _ = Value.int .i64 _; go_num, fin8, fin9, HB7⟩, ?_⟩
    show xs.length - (intOf (.int .i64 ((k : Int) + 1))).toNat < xs.length - k
    simp [intOf]; omega
  cases t3 : decide (5 < sa.k)
  rotate_left 1
  · go_wp2
    refine ⟨⟨_, st_of 316 (by rfl), k + 1, _, _, by omega, rfl, rfl, rfl, rfl, rfl, by show _ = Value.int .i64 _; go_num, fin8, fin9, HB7⟩, ?_⟩
    show xs.length - (intOf (.int .i64 ((k : Int) + 1))).toNat < xs.length - k
    simp [intOf]; omega
  · exfalso
    have e1 := bne_eq_false_iff_eq.1 t1
    have e2 := of_decide_eq_false t2
    have e3 := of_decide_eq_false t3
    omega
end Go.Proofs.Ythlbmcfliejdiaa
end

section
set_option linter.unusedVariables false
set_option linter.unusedSimpArgs false
namespace Go.Proofs.Ythlbmcfliejdiaa
open Go.RowKit

/-- The loops' bodies of a function, those that stand in no other loop. -/
def loopsOf : Code → List Code
  | .loop c => [c]
  | .seq a b => loopsOf a ++ loopsOf b
  | .block _ c => loopsOf c
  | .cond _ a b => loopsOf a ++ loopsOf b
  | _ => []
noncomputable def consBody2 : Code := ((Try.f4.body.bind fun c => (loopsOf c)[1]?).getD .skip)
noncomputable def consBody3 : Code := ((Try.f4.body.bind fun c => (loopsOf c)[2]?).getD .skip)
def wayJ (x1 : Nt) (g5 : Nat) (sent : List Lt) (all : List Acct) (w3 : World) (f : Nat → Value) (wr : World) : Prop :=
  ∃ (k : Nat) (s q : Value), k ≤ x1.way.length ∧ f 5 = .pointer (some ⟨g5, 0, none⟩) ∧ f 8 = s ∧ f 9 = q ∧ f 13 = .int .i64 (k : Int) ∧
    Hid (Own wr w3.heap.size 33 s sent) ∧ Hid (Own wr w3.heap.size 57 q (outW all (x1.way.take k))) ∧ Hid (Below w3.heap.size w3 wr)
def wayI (x1 : Nt) (g5 : Nat) (sent : List Lt) (all : List Acct) (w3 : World) (a : Act) (wr : World) : Prop := ∃ f, a = st 316 f ∧ wayJ x1 g5 sent all w3 f wr
def wayMu (x1 : Nt) (a : Act) (w : World) : Nat := x1.way.length - (intOf (a.tmps.getD 13 undef)).toNat
def allJ (x1 : Nt) (g5 : Nat) (sent : List Lt) (all : List Acct) (w3 : World) (f : Nat → Value) (wr : World) : Prop :=
  ∃ (k : Nat) (s q : Value), k ≤ all.length ∧ f 5 = .pointer (some ⟨g5, 0, none⟩) ∧ f 8 = s ∧ f 9 = q ∧ f 15 = .int .i64 (k : Int) ∧
    Hid (Own wr w3.heap.size 33 s sent) ∧ Hid (Own wr w3.heap.size 57 q all) ∧ Hid (Below w3.heap.size w3 wr)
def allI (x1 : Nt) (g5 : Nat) (sent : List Lt) (all : List Acct) (w3 : World) (a : Act) (wr : World) : Prop := ∃ f, a = st 316 f ∧ allJ x1 g5 sent all w3 f wr
def allMu (all : List Acct) (a : Act) (w : World) : Nat := all.length - (intOf (a.tmps.getD 15 undef)).toNat
set_option maxHeartbeats 8000000 in
set_option maxRecDepth 100000 in
theorem cons_all_round (x1 : Nt) (g5 : Nat) (sent : List Lt) (all : List Acct) (w3 wr : World) (f : Nat → Value) (Q0 : Exit → Act → World → Prop) (k : Nat) (u8 u9 : Value) (hla : all.length ≤ 300) (hlk : k < all.length)
    (heq : Hid (∀ (j : Nat) q, all[j]? = some q → q.i = q.o)) (h5 : f 5 = .pointer (some ⟨g5, 0, none⟩)) (h8 : f 8 = u8) (h9 : f 9 = u9) (h15 : f 15 = .int .i64 (k : Int))
    (hO8 : Hid (Own wr w3.heap.size 33 u8 sent)) (hO9 : Hid (Own wr w3.heap.size 57 u9 all)) (hB : Hid (Below w3.heap.size w3 wr))
    (hQ0 : ∀ (d : Option Tmp) (v : Value) c a w, Q0 (.panic c) (a.put d v) w → Q0 (.panic c) a w) :
    consBody3.wp Try.prog (Exit.then (fun a' w' => allI x1 g5 sent all w3 a' w' ∧ allMu all a' w' < allMu all (st 316 f) wr) Q0) (st 316 f) wr := by
  conv => arg 2; whnf
  have hmu : Hid (allMu all (st 316 f) wr = all.length - k) := by
    show _ = _
    unfold allMu
    rw [st_getD (by decide), h15]; rfl
  rw [hmu.out]
  rw [st_all4, h5, h8, h9, h15]
  clear h5 h8 h9 h15
  obtain ⟨A9, c9, hu9, -, hR9⟩ := hO9.out.slice
  subst hu9
  obtain ⟨b9, o9, q, hA, hq, y0, y1⟩ := hR9.qa k hlk
  subst hA
  have hl9 : b9 < wr.heap.size := World.block_lt_of_cell? wr _ y0
  have hqe := heq.out k q hq.out
  have HQ := Lib.hid hqe
  have d1 : (q.i != q.o) = false := bne_eq_false_iff_eq.2 hqe
  clear hqe hR9
  go_wp2
  go_quiet (fail)
  go_wp2
  refine ⟨⟨_, st_of 316 (by rfl), k + 1, _, _, by omega, rfl, rfl, rfl, by show _ = Value.int .i64 _; go_num, hO8.out.drewN _, hO9.out.drewN _, below_drewN hB.out _⟩, ?_⟩
  show all.length - (intOf (.int .i64 ((k : Int) + 1))).toNat < all.length - k
  simp [intOf]; omega
set_option maxRecDepth 100000 in
theorem st_lit38 (f : Nat → Value) (l : List Value) (hl : l.length = 316) (h : ∀ j, j < 239 ∨ 282 ≤ j → f j = l.getD j undef) : st 316 f = ⟨(l.take 239 ++ ([f 239, f 240, f 241, f 242, f 243, f 244, f 245, f 246, f 247, f 248, f 249, f 250, f 251, f 252, f 253, f 254, f 255, f 256, f 257, f 258, f 259, f 260, f 261, f 262, f 263, f 264, f 265, f 266, f 267, f 268, f 269, f 270, f 271, f 272, f 273, f 274, f 275, f 276, f 277, f 278, f 279, f 280, f 281] ++ l.drop 282)).toArray, []⟩ := by
  have hm : [f 239, f 240, f 241, f 242, f 243, f 244, f 245, f 246, f 247, f 248, f 249, f 250, f 251, f 252, f 253, f 254, f 255, f 256, f 257, f 258, f 259, f 260, f 261, f 262, f 263, f 264, f 265, f 266, f 267, f 268, f 269, f 270, f 271, f 272, f 273, f 274, f 275, f 276, f 277, f 278, f 279, f 280, f 281] = (List.range 43).map (fun i => f (239 + i)) := by
    have h : List.range 43 = [0, 1, 2, 3, 4, 5, 6, 7, 8, 9, 10, 11, 12, 13, 14, 15, 16, 17, 18, 19, 20, 21, 22, 23, 24, 25, 26, 27, 28, 29, 30, 31, 32, 33, 34, 35, 36, 37, 38, 39, 40, 41, 42] := by decide +kernel
    rw [h]; rfl
  rw [hm]
  unfold st
  simp only [Act.mk.injEq, and_true]
  congr 1
  apply List.ext_getElem
  · simp [hl]
  · intro k h1 h2
    have hk : k < 316 := by simpa using h1
    simp only [List.getElem_map, List.getElem_range, List.getElem_append, List.length_take, List.length_map, List.length_range, hl]
    have hg : ∀ j (hj : j < l.length), l.getD j undef = l[j] := fun j hj => by simp [List.getD_eq_getElem?_getD, List.getElem?_eq_getElem hj]
    by_cases c1 : k < 239
    · rw [dif_pos (by omega), h k (by omega), hg k (by omega)]
      simp
    · by_cases c2 : k < 282
      · rw [dif_neg (by omega), dif_pos (by omega)]
        congr 1; omega
      · rw [dif_neg (by omega), dif_neg (by omega), h k (by omega), hg k (by omega)]
        simp only [List.getElem_drop]
        congr 1; omega
set_option maxHeartbeats 8000000 in
set_option maxRecDepth 100000 in
theorem cons_way_round (x1 : Nt) (g5 : Nat) (sent : List Lt) (all : List Acct) (w3 wr : World) (f : Nat → Value) (Q0 : Exit → Act → World → Prop) (k N : Nat) (u8 u9 : Value) (AW AC AT : Option Addr) (cW cC cT : Nat) (hN : N ≤ 300) (hlk : k < x1.way.length)
    (HZ3 : Hid (w3.heap[g5]? = some (.cells #[.int .i64 x1.nodes, .int .i64 x1.now, .int .i64 x1.next, .slice AW x1.way.length cW, .slice AC x1.cuts.length cC, .slice AT x1.timers.length cT] 26 (0, 0)))) (HRW : Hid (Rd w3 AW x1.way)) (HX1 : Hid (Ok x1 ∧ ConsI N x1 ⟨sent, all⟩))
    (h5 : f 5 = .pointer (some ⟨g5, 0, none⟩)) (h8 : f 8 = u8) (h9 : f 9 = u9) (h13 : f 13 = .int .i64 (k : Int))
    (hO8 : Hid (Own wr w3.heap.size 33 u8 sent)) (hO9 : Hid (Own wr w3.heap.size 57 u9 (outW all (x1.way.take k)))) (hB : Hid (Below w3.heap.size w3 wr))
    (hQ0 : ∀ (d : Option Tmp) (v : Value) c a w, Q0 (.panic c) (a.put d v) w → Q0 (.panic c) a w) :
    consBody2.wp Try.prog (Exit.then (fun a' w' => wayI x1 g5 sent all w3 a' w' ∧ wayMu x1 a' w' < wayMu x1 (st 316 f) wr) Q0) (st 316 f) wr := by
  conv => arg 2; whnf
  have hmu : Hid (wayMu x1 (st 316 f) wr = x1.way.length - k) := by
    show _ = _
    unfold wayMu
    rw [st_getD (by decide), h13]; rfl
  rw [hmu.out]
  rw [st_all4, h5, h8, h9, h13]
  clear h5 h8 h9 h13
  have hz := bl_below HZ3.out hB.out
  obtain ⟨bl, ol, l, hA, hx, l0, l1, l2, l3, l4⟩ := (HRW.out.below hB.out).lt k hlk
  subst hA
  obtain ⟨⟨k0, k1, k2, k3, k4, k5⟩, -⟩ := blc6 hz
  have hlz := bl_lt hz
  have hll := World.block_lt_of_cell? wr _ l0
  have hlw : x1.way.length ≤ 200 := HX1.out.1.way
  have hmem := mem_at hx.out
  have hid := letter_id HX1.out.1 hmem
  obtain ⟨m, g1, g2, g3, g4⟩ := HX1.out.2.wy l hmem
  have hls := HX1.out.2.ls
  have hla := HX1.out.2.la
  simp only at hls hla g1
  obtain ⟨j, hj⟩ : ∃ j : Nat, l.id = j := ⟨l.id.toNat, by omega⟩
  rw [hj, Int.toNat_natCast] at g1
  have hjl : j < sent.length := (List.getElem?_eq_some_iff.1 g1).1
  have hja : j < all.length := by omega
  have hq0 : all[j]? = some all[j] := List.getElem?_eq_getElem hja
  have hac := HX1.out.2.ac j _ hq0
  have hbd := HX1.out.2.bd j _ hq0
  have hpos : ∀ l' ∈ x1.way.take k, 0 ≤ l'.id := fun l' h => (letter_id HX1.out.1 (List.mem_of_mem_take h)).1
  have hget := outW_get (x1.way.take k) all j _ hpos hq0
  have hcn := cnt_nonneg (x1.way.take k) j
  have hcl : cnt (x1.way.take k) j ≤ 200 := by
    unfold cnt
    have h1 := List.length_filter_le (fun l : Lt => decide (l.id = (j : Int))) (x1.way.take k)
    have h2 : (x1.way.take k).length ≤ k := List.length_take_le _ _
    omega
  have hcw := cnt_nonneg x1.way j
  obtain ⟨q, hq⟩ : ∃ q : Acct, q = ⟨all[j].i, all[j].o + cnt (x1.way.take k) j⟩ := ⟨_, rfl⟩
  rw [← hq] at hget
  have hqo : 0 ≤ q.o ∧ q.o ≤ 1000 := by rw [hq]; simp only; omega
  have hqo1 := hqo.1
  have hqo2 := hqo.2
  have hout : outW all (x1.way.take (k + 1)) = (outW all (x1.way.take k)).set j (outA q) := by
    rw [List.take_add_one, hx.out]
    show outW all (_ ++ [_]) = _
    rw [outW_snoc, hj, Int.toNat_natCast]
    apply List.ext_getElem?
    intro i
    rw [get_modify, List.getElem?_set]
    by_cases hji : j = i
    · subst hji
      rw [if_pos rfl, hget, if_pos rfl, if_pos (by rw [outW_len]; exact hja)]; rfl
    · rw [if_neg hji, if_neg hji]
  have HOUT := Lib.hid hout
  have HGET := Lib.hid hget
  have hln : (outW all (x1.way.take k)).length = all.length := outW_len _ _
  have HLN := Lib.hid hln
  have HM4 := Lib.hid g1
  have hls3 : sent.length ≤ 300 := Nat.le_trans HX1.out.2.ln hN
  clear hls hla hac hbd hpos hget hcn hcl hcw hq hqo hout hid hmem hq0 hln g1 hz
  obtain ⟨lid, lfr, lto, lrd, ldt⟩ := l
  simp only at hj g2 g3 g4 l0 l1 l2 l3 l4
  subst hj
  subst g4
  have p1 : decide ((j : Int) < 0) = false := decide_eq_false (by omega)
  have p2 : decide (sent.length ≤ j) = false := decide_eq_false (by omega)
  have p2' : decide ((sent.length : Int) ≤ (j : Int)) = false := decide_eq_false (by omega)
  have p3 : (lfr != m.fr) = false := bne_eq_false_iff_eq.2 g2
  have p4 : (lto != m.to) = false := bne_eq_false_iff_eq.2 g3
  clear g2 g3
  obtain ⟨A8, c8, hu8, -, hR8⟩ := hO8.out.slice
  subst hu8
  obtain ⟨b8, o8, m', hA8, hm', z0, z1, z2, z3, z4⟩ := hR8.lt j hjl
  subst hA8
  obtain rfl : m' = m := Option.some.inj (hm'.out.symm.trans HM4.out)
  clear hR8 hm'
  go_upto_region 38 with fail
  obtain ⟨w7, hw7⟩ : ∃ w7, w7 = wr.alloc (.cells #[.int .i64 (j : Int), .int .i64 lfr, .int .i64 lto, .int .i64 lrd, .string m'.data] 33) := ⟨_, rfl⟩
  have hb7 : Below wr.heap.size wr w7 := by rw [hw7]; exact below_alloc (Below.refl _ _) _
  have hm7 : w7.heap[wr.heap.size]? = some (.cells #[.int .i64 (j : Int), .int .i64 lfr, .int .i64 lto, .int .i64 lrd, .string m'.data] 33 (0, 0)) := by rw [hw7]; exact bl_new _ _
  rw [← hw7]
  clear hw7 k0 k1 k2 k3 k4 k5 hlz l0 l1 l2 l3 l4 hll
  have H8 := Lib.hid (hO8.out.below hb7)
  have H9 := Lib.hid (hO9.out.below hb7)
  have HB7 := Lib.hid (below_trans hB.out hb7)
  have HM7 := Lib.hid hm7
  replace z1 := cell_below hb7 z1
  replace z2 := cell_below hb7 z2
  replace z4 := cell_below hb7 z4
  have hl8 : b8 < w7.heap.size := World.block_lt_of_cell? w7 _ z1
  obtain ⟨⟨m0, m1, m2, m3, m4⟩, -⟩ := blc5 hm7
  have hlm := bl_lt hm7
  clear hb7 hm7 hO8 hO9 z0 z3
  go_cut [281] from 239 to 281 (fun s wx => s = .bool false ∧ Hid (Below w7.heap.size w7 wx))
  case first =>
    refine wp_st 316 (by rfl) fun f0 hf0 => ?_
    have iq14 : f0 14 = .pointer (some ⟨wr.heap.size, 0, none⟩) := (hf0 14).trans rfl
    have iq8 : f0 8 = .slice (some ⟨b8, o8, none⟩) sent.length c8 := (hf0 8).trans rfl
    have HF0 := Lib.hid hf0
    clear hf0
    refine wp_mixW [1, 2, 3, 10, 5, 8, 7, 8, 9, 10, 21, 12, 19, 16, 15, 16, 17, 18, 19, 20, 21, 32, 23, 30, 27, 26, 27, 28, 29, 30, 31, 32, 42, 34, 41, 38, 37, 38, 39, 40, 41, 42] [(0, true), (1, true), (2, true), (3, true), (4, true), (5, true), (6, true), (7, true), (8, true), (9, true), (10, true), (11, true), (12, true), (13, true), (14, true), (15, true), (16, true), (17, true), (18, true), (19, true), (20, true), (21, true), (22, true), (23, true), (24, true), (25, true), (26, true), (27, true), (28, true), (29, true), (30, true), (31, true), (32, true), (33, true), (34, true), (35, true), (36, true), (37, true), (38, true), (39, true), (40, true), (41, true)] 42
      (fun w' => Below w7.heap.size w7 w')
      (by kernel_rfl) (by kernel_rfl) (by kernel_rfl) (by kernel_rfl) (by kernel_rfl) (fun d v c a w h => hQ0 d v c a w h) (Below.refl _ _).drew ?_
    intro ops K Q1 hops HK
    have o_3 := hops.out 3 _ rfl
    have o_10 := hops.out 10 _ rfl
    have o_21 := hops.out 21 _ rfl
    have o_32 := hops.out 32 _ rfl
    clear hops
    simp only [pick, List.map_cons, List.map_nil, List.getD_cons_zero, List.getD_cons_succ, List.drop_succ_cons, List.drop_zero]
    apply mixS_take (i := 239) rfl (by decide) (want_none rfl)
    case hy => intro W' hW'; obtain ⟨hwc, -⟩ := bcell hW'; simp only [execOp, st_eval, st_const, st_func, upd, Nat.reduceLT, Nat.reduceEqDiff, if_true, if_false, ite_true, ite_false, reduceIte, iq14, iq8, List.map_toArray, List.map_cons, List.map_nil]; (try go_simp); try rfl
    apply mixS_take (i := 240) rfl (by decide) (want_none rfl)
    case hy => intro W' hW'; obtain ⟨hwc, -⟩ := bcell hW'; simp only [execOp, st_eval, st_const, st_func, upd, Nat.reduceLT, Nat.reduceEqDiff, if_true, if_false, ite_true, ite_false, reduceIte, iq14, iq8, List.map_toArray, List.map_cons, List.map_nil]; (try go_simp); try rfl
    apply mixS_take (i := 241) rfl (by decide) (want_none rfl)
    case hy => intro W' hW'; obtain ⟨hwc, -⟩ := bcell hW'; simp only [execOp, st_eval, st_const, st_func, upd, Nat.reduceLT, Nat.reduceEqDiff, if_true, if_false, ite_true, ite_false, reduceIte, iq14, iq8, List.map_toArray, List.map_cons, List.map_nil]; (try go_simp); try rfl
    apply mixS_take (i := 242) rfl (by decide) (want_none rfl)
    case hy => intro W' hW'; obtain ⟨hwc, -⟩ := bcell hW'; simp only [execOp, st_eval, st_const, st_func, upd, Nat.reduceLT, Nat.reduceEqDiff, if_true, if_false, ite_true, ite_false, reduceIte, iq14, iq8, List.map_toArray, List.map_cons, List.map_nil]; (try go_simp); try rfl
    apply mixS_take (i := 243) rfl (by decide) (want_st (j := 3) (i := 242) rfl o_3 rfl (by decide) (by first | rfl | simp [upd, *]))
    case hy => intro W' hW'; obtain ⟨hwc, -⟩ := bcell hW'; simp only [execOp, st_eval, st_const, st_func, upd, Nat.reduceLT, Nat.reduceEqDiff, if_true, if_false, ite_true, ite_false, reduceIte, iq14, iq8, List.map_toArray, List.map_cons, List.map_nil]; (try go_simp); try rfl
    apply mixS_take (i := 244) rfl (by decide) (want_st (j := 3) (i := 242) rfl o_3 rfl (by decide) (by first | rfl | simp [upd, *]))
    case hy => intro W' hW'; obtain ⟨hwc, -⟩ := bcell hW'; simp only [execOp, st_eval, st_const, st_func, upd, Nat.reduceLT, Nat.reduceEqDiff, if_true, if_false, ite_true, ite_false, reduceIte, iq14, iq8, List.map_toArray, List.map_cons, List.map_nil]; (try go_simp); try rfl
    apply mixS_take (i := 245) rfl (by decide) (want_st (j := 3) (i := 242) rfl o_3 rfl (by decide) (by first | rfl | simp [upd, *]))
    case hy => intro W' hW'; obtain ⟨hwc, -⟩ := bcell hW'; simp only [execOp, st_eval, st_const, st_func, upd, Nat.reduceLT, Nat.reduceEqDiff, if_true, if_false, ite_true, ite_false, reduceIte, iq14, iq8, List.map_toArray, List.map_cons, List.map_nil]; (try go_simp); try rfl
    apply mixS_take (i := 246) rfl (by decide) (want_st (j := 3) (i := 242) rfl o_3 rfl (by decide) (by first | rfl | simp [upd, *]))
    case hy => intro W' hW'; obtain ⟨hwc, -⟩ := bcell hW'; simp only [execOp, st_eval, st_const, st_func, upd, Nat.reduceLT, Nat.reduceEqDiff, if_true, if_false, ite_true, ite_false, reduceIte, iq14, iq8, List.map_toArray, List.map_cons, List.map_nil]; (try go_simp); try rfl
    apply mixS_take (i := 247) rfl (by decide) (want_st (j := 3) (i := 242) rfl o_3 rfl (by decide) (by first | rfl | simp [upd, *]))
    case hy => intro W' hW'; obtain ⟨hwc, -⟩ := bcell hW'; simp only [execOp, st_eval, st_const, st_func, upd, Nat.reduceLT, Nat.reduceEqDiff, if_true, if_false, ite_true, ite_false, reduceIte, iq14, iq8, List.map_toArray, List.map_cons, List.map_nil]; (try go_simp); try rfl
    apply mixS_take (i := 248) rfl (by decide) (want_none rfl)
    case hy => intro W' hW'; obtain ⟨hwc, -⟩ := bcell hW'; simp only [execOp, st_eval, st_const, st_func, upd, Nat.reduceLT, Nat.reduceEqDiff, if_true, if_false, ite_true, ite_false, reduceIte, iq14, iq8, List.map_toArray, List.map_cons, List.map_nil]; (try go_simp); try rfl
    apply mixS_take (i := 249) rfl (by decide) (want_none rfl)
    case hy => intro W' hW'; obtain ⟨hwc, -⟩ := bcell hW'; simp only [execOp, st_eval, st_const, st_func, upd, Nat.reduceLT, Nat.reduceEqDiff, if_true, if_false, ite_true, ite_false, reduceIte, iq14, iq8, List.map_toArray, List.map_cons, List.map_nil]; (try go_simp); try rfl
    apply mixS_take (i := 250) rfl (by decide) (want_st (j := 10) (i := 249) rfl o_10 rfl (by decide) (by first | rfl | simp [upd, *]))
    case hy => intro W' hW'; obtain ⟨hwc, -⟩ := bcell hW'; simp only [execOp, st_eval, st_const, st_func, upd, Nat.reduceLT, Nat.reduceEqDiff, if_true, if_false, ite_true, ite_false, reduceIte, iq14, iq8, List.map_toArray, List.map_cons, List.map_nil]; (try go_simp); try rfl
    apply mixS_take (i := 251) rfl (by decide) (want_st (j := 10) (i := 249) rfl o_10 rfl (by decide) (by first | rfl | simp [upd, *]))
    case hy => intro W' hW'; obtain ⟨hwc, -⟩ := bcell hW'; simp only [execOp, st_eval, st_const, st_func, upd, Nat.reduceLT, Nat.reduceEqDiff, if_true, if_false, ite_true, ite_false, reduceIte, iq14, iq8, List.map_toArray, List.map_cons, List.map_nil]; (try go_simp); try rfl
    apply mixS_take (i := 252) rfl (by decide) (want_st (j := 10) (i := 249) rfl o_10 rfl (by decide) (by first | rfl | simp [upd, *]))
    case hy => intro W' hW'; obtain ⟨hwc, -⟩ := bcell hW'; simp only [execOp, st_eval, st_const, st_func, upd, Nat.reduceLT, Nat.reduceEqDiff, if_true, if_false, ite_true, ite_false, reduceIte, iq14, iq8, List.map_toArray, List.map_cons, List.map_nil]; (try go_simp); try rfl
    apply mixS_take (i := 253) rfl (by decide) (want_st (j := 10) (i := 249) rfl o_10 rfl (by decide) (by first | rfl | simp [upd, *]))
    case hy => intro W' hW'; obtain ⟨hwc, -⟩ := bcell hW'; simp only [execOp, st_eval, st_const, st_func, upd, Nat.reduceLT, Nat.reduceEqDiff, if_true, if_false, ite_true, ite_false, reduceIte, iq14, iq8, List.map_toArray, List.map_cons, List.map_nil]; (try go_simp); try rfl
    apply mixS_take (i := 254) rfl (by decide) (want_st (j := 10) (i := 249) rfl o_10 rfl (by decide) (by first | rfl | simp [upd, *]))
    case hy => intro W' hW'; obtain ⟨hwc, -⟩ := bcell hW'; simp only [execOp, st_eval, st_const, st_func, upd, Nat.reduceLT, Nat.reduceEqDiff, if_true, if_false, ite_true, ite_false, reduceIte, iq14, iq8, List.map_toArray, List.map_cons, List.map_nil]; (try go_simp); try rfl
    apply mixS_take (i := 255) rfl (by decide) (want_st (j := 10) (i := 249) rfl o_10 rfl (by decide) (by first | rfl | simp [upd, *]))
    case hy => intro W' hW'; obtain ⟨hwc, -⟩ := bcell hW'; simp only [execOp, st_eval, st_const, st_func, upd, Nat.reduceLT, Nat.reduceEqDiff, if_true, if_false, ite_true, ite_false, reduceIte, iq14, iq8, List.map_toArray, List.map_cons, List.map_nil]; (try go_simp); try rfl
    apply mixS_take (i := 256) rfl (by decide) (want_st (j := 10) (i := 249) rfl o_10 rfl (by decide) (by first | rfl | simp [upd, *]))
    case hy => intro W' hW'; obtain ⟨hwc, -⟩ := bcell hW'; simp only [execOp, st_eval, st_const, st_func, upd, Nat.reduceLT, Nat.reduceEqDiff, if_true, if_false, ite_true, ite_false, reduceIte, iq14, iq8, List.map_toArray, List.map_cons, List.map_nil]; (try go_simp); try rfl
    apply mixS_take (i := 257) rfl (by decide) (want_st (j := 10) (i := 249) rfl o_10 rfl (by decide) (by first | rfl | simp [upd, *]))
    case hy => intro W' hW'; obtain ⟨hwc, -⟩ := bcell hW'; simp only [execOp, st_eval, st_const, st_func, upd, Nat.reduceLT, Nat.reduceEqDiff, if_true, if_false, ite_true, ite_false, reduceIte, iq14, iq8, List.map_toArray, List.map_cons, List.map_nil]; (try go_simp); try rfl
    apply mixS_take (i := 258) rfl (by decide) (want_st (j := 10) (i := 249) rfl o_10 rfl (by decide) (by first | rfl | simp [upd, *]))
    case hy => intro W' hW'; obtain ⟨hwc, -⟩ := bcell hW'; simp only [execOp, st_eval, st_const, st_func, upd, Nat.reduceLT, Nat.reduceEqDiff, if_true, if_false, ite_true, ite_false, reduceIte, iq14, iq8, List.map_toArray, List.map_cons, List.map_nil]; (try go_simp); try rfl
    apply mixS_take (i := 259) rfl (by decide) (want_none rfl)
    case hy => intro W' hW'; obtain ⟨hwc, -⟩ := bcell hW'; simp only [execOp, st_eval, st_const, st_func, upd, Nat.reduceLT, Nat.reduceEqDiff, if_true, if_false, ite_true, ite_false, reduceIte, iq14, iq8, List.map_toArray, List.map_cons, List.map_nil]; (try go_simp); try rfl
    apply mixS_take (i := 260) rfl (by decide) (want_none rfl)
    case hy => intro W' hW'; obtain ⟨hwc, -⟩ := bcell hW'; simp only [execOp, st_eval, st_const, st_func, upd, Nat.reduceLT, Nat.reduceEqDiff, if_true, if_false, ite_true, ite_false, reduceIte, iq14, iq8, List.map_toArray, List.map_cons, List.map_nil]; (try go_simp); try rfl
    apply mixS_take (i := 261) rfl (by decide) (want_st (j := 21) (i := 260) rfl o_21 rfl (by decide) (by first | rfl | simp [upd, *]))
    case hy => intro W' hW'; obtain ⟨hwc, -⟩ := bcell hW'; simp only [execOp, st_eval, st_const, st_func, upd, Nat.reduceLT, Nat.reduceEqDiff, if_true, if_false, ite_true, ite_false, reduceIte, iq14, iq8, List.map_toArray, List.map_cons, List.map_nil]; (try go_simp); try rfl
    apply mixS_take (i := 262) rfl (by decide) (want_st (j := 21) (i := 260) rfl o_21 rfl (by decide) (by first | rfl | simp [upd, *]))
    case hy => intro W' hW'; obtain ⟨hwc, -⟩ := bcell hW'; simp only [execOp, st_eval, st_const, st_func, upd, Nat.reduceLT, Nat.reduceEqDiff, if_true, if_false, ite_true, ite_false, reduceIte, iq14, iq8, List.map_toArray, List.map_cons, List.map_nil]; (try go_simp); try rfl
    apply mixS_take (i := 263) rfl (by decide) (want_st (j := 21) (i := 260) rfl o_21 rfl (by decide) (by first | rfl | simp [upd, *]))
    case hy => intro W' hW'; obtain ⟨hwc, -⟩ := bcell hW'; simp only [execOp, st_eval, st_const, st_func, upd, Nat.reduceLT, Nat.reduceEqDiff, if_true, if_false, ite_true, ite_false, reduceIte, iq14, iq8, List.map_toArray, List.map_cons, List.map_nil]; (try go_simp); try rfl
    apply mixS_take (i := 264) rfl (by decide) (want_st (j := 21) (i := 260) rfl o_21 rfl (by decide) (by first | rfl | simp [upd, *]))
    case hy => intro W' hW'; obtain ⟨hwc, -⟩ := bcell hW'; simp only [execOp, st_eval, st_const, st_func, upd, Nat.reduceLT, Nat.reduceEqDiff, if_true, if_false, ite_true, ite_false, reduceIte, iq14, iq8, List.map_toArray, List.map_cons, List.map_nil]; (try go_simp); try rfl
    apply mixS_take (i := 265) rfl (by decide) (want_st (j := 21) (i := 260) rfl o_21 rfl (by decide) (by first | rfl | simp [upd, *]))
    case hy => intro W' hW'; obtain ⟨hwc, -⟩ := bcell hW'; simp only [execOp, st_eval, st_const, st_func, upd, Nat.reduceLT, Nat.reduceEqDiff, if_true, if_false, ite_true, ite_false, reduceIte, iq14, iq8, List.map_toArray, List.map_cons, List.map_nil]; (try go_simp); try rfl
    apply mixS_take (i := 266) rfl (by decide) (want_st (j := 21) (i := 260) rfl o_21 rfl (by decide) (by first | rfl | simp [upd, *]))
    case hy => intro W' hW'; obtain ⟨hwc, -⟩ := bcell hW'; simp only [execOp, st_eval, st_const, st_func, upd, Nat.reduceLT, Nat.reduceEqDiff, if_true, if_false, ite_true, ite_false, reduceIte, iq14, iq8, List.map_toArray, List.map_cons, List.map_nil]; (try go_simp); try rfl
    apply mixS_take (i := 267) rfl (by decide) (want_st (j := 21) (i := 260) rfl o_21 rfl (by decide) (by first | rfl | simp [upd, *]))
    case hy => intro W' hW'; obtain ⟨hwc, -⟩ := bcell hW'; simp only [execOp, st_eval, st_const, st_func, upd, Nat.reduceLT, Nat.reduceEqDiff, if_true, if_false, ite_true, ite_false, reduceIte, iq14, iq8, List.map_toArray, List.map_cons, List.map_nil]; (try go_simp); try rfl
    apply mixS_take (i := 268) rfl (by decide) (want_st (j := 21) (i := 260) rfl o_21 rfl (by decide) (by first | rfl | simp [upd, *]))
    case hy => intro W' hW'; obtain ⟨hwc, -⟩ := bcell hW'; simp only [execOp, st_eval, st_const, st_func, upd, Nat.reduceLT, Nat.reduceEqDiff, if_true, if_false, ite_true, ite_false, reduceIte, iq14, iq8, List.map_toArray, List.map_cons, List.map_nil]; (try go_simp); try rfl
    apply mixS_take (i := 269) rfl (by decide) (want_st (j := 21) (i := 260) rfl o_21 rfl (by decide) (by first | rfl | simp [upd, *]))
    case hy => intro W' hW'; obtain ⟨hwc, -⟩ := bcell hW'; simp only [execOp, st_eval, st_const, st_func, upd, Nat.reduceLT, Nat.reduceEqDiff, if_true, if_false, ite_true, ite_false, reduceIte, iq14, iq8, List.map_toArray, List.map_cons, List.map_nil]; (try go_simp); try rfl
    apply mixS_take (i := 270) rfl (by decide) (want_none rfl)
    case hy => intro W' hW'; obtain ⟨hwc, -⟩ := bcell hW'; simp only [execOp, st_eval, st_const, st_func, upd, Nat.reduceLT, Nat.reduceEqDiff, if_true, if_false, ite_true, ite_false, reduceIte, iq14, iq8, List.map_toArray, List.map_cons, List.map_nil]; (try go_simp); try rfl
    apply mixS_take (i := 271) rfl (by decide) (want_none rfl)
    case hy => intro W' hW'; obtain ⟨hwc, -⟩ := bcell hW'; simp only [execOp, st_eval, st_const, st_func, upd, Nat.reduceLT, Nat.reduceEqDiff, if_true, if_false, ite_true, ite_false, reduceIte, iq14, iq8, List.map_toArray, List.map_cons, List.map_nil]; (try go_simp); try rfl
    apply mixS_take (i := 272) rfl (by decide) (want_st (j := 32) (i := 271) rfl o_32 rfl (by decide) (by first | rfl | simp [upd, *]))
    case hy => intro W' hW'; obtain ⟨hwc, -⟩ := bcell hW'; simp only [execOp, st_eval, st_const, st_func, upd, Nat.reduceLT, Nat.reduceEqDiff, if_true, if_false, ite_true, ite_false, reduceIte, iq14, iq8, List.map_toArray, List.map_cons, List.map_nil]; (try go_simp); try rfl
    apply mixS_take (i := 273) rfl (by decide) (want_st (j := 32) (i := 271) rfl o_32 rfl (by decide) (by first | rfl | simp [upd, *]))
    case hy => intro W' hW'; obtain ⟨hwc, -⟩ := bcell hW'; simp only [execOp, st_eval, st_const, st_func, upd, Nat.reduceLT, Nat.reduceEqDiff, if_true, if_false, ite_true, ite_false, reduceIte, iq14, iq8, List.map_toArray, List.map_cons, List.map_nil]; (try go_simp); try rfl
    apply mixS_take (i := 274) rfl (by decide) (want_st (j := 32) (i := 271) rfl o_32 rfl (by decide) (by first | rfl | simp [upd, *]))
    case hy => intro W' hW'; obtain ⟨hwc, -⟩ := bcell hW'; simp only [execOp, st_eval, st_const, st_func, upd, Nat.reduceLT, Nat.reduceEqDiff, if_true, if_false, ite_true, ite_false, reduceIte, iq14, iq8, List.map_toArray, List.map_cons, List.map_nil]; (try go_simp); try rfl
    apply mixS_take (i := 275) rfl (by decide) (want_st (j := 32) (i := 271) rfl o_32 rfl (by decide) (by first | rfl | simp [upd, *]))
    case hy => intro W' hW'; obtain ⟨hwc, -⟩ := bcell hW'; simp only [execOp, st_eval, st_const, st_func, upd, Nat.reduceLT, Nat.reduceEqDiff, if_true, if_false, ite_true, ite_false, reduceIte, iq14, iq8, List.map_toArray, List.map_cons, List.map_nil]; (try go_simp); try rfl
    apply mixS_take (i := 276) rfl (by decide) (want_st (j := 32) (i := 271) rfl o_32 rfl (by decide) (by first | rfl | simp [upd, *]))
    case hy => intro W' hW'; obtain ⟨hwc, -⟩ := bcell hW'; simp only [execOp, st_eval, st_const, st_func, upd, Nat.reduceLT, Nat.reduceEqDiff, if_true, if_false, ite_true, ite_false, reduceIte, iq14, iq8, List.map_toArray, List.map_cons, List.map_nil]; (try go_simp); try rfl
    apply mixS_take (i := 277) rfl (by decide) (want_st (j := 32) (i := 271) rfl o_32 rfl (by decide) (by first | rfl | simp [upd, *]))
    case hy => intro W' hW'; obtain ⟨hwc, -⟩ := bcell hW'; simp only [execOp, st_eval, st_const, st_func, upd, Nat.reduceLT, Nat.reduceEqDiff, if_true, if_false, ite_true, ite_false, reduceIte, iq14, iq8, List.map_toArray, List.map_cons, List.map_nil]; (try go_simp); try rfl
    apply mixS_take (i := 278) rfl (by decide) (want_st (j := 32) (i := 271) rfl o_32 rfl (by decide) (by first | rfl | simp [upd, *]))
    case hy => intro W' hW'; obtain ⟨hwc, -⟩ := bcell hW'; simp only [execOp, st_eval, st_const, st_func, upd, Nat.reduceLT, Nat.reduceEqDiff, if_true, if_false, ite_true, ite_false, reduceIte, iq14, iq8, List.map_toArray, List.map_cons, List.map_nil]; (try go_simp); try rfl
    apply mixS_take (i := 279) rfl (by decide) (want_st (j := 32) (i := 271) rfl o_32 rfl (by decide) (by first | rfl | simp [upd, *]))
    case hy => intro W' hW'; obtain ⟨hwc, -⟩ := bcell hW'; simp only [execOp, st_eval, st_const, st_func, upd, Nat.reduceLT, Nat.reduceEqDiff, if_true, if_false, ite_true, ite_false, reduceIte, iq14, iq8, List.map_toArray, List.map_cons, List.map_nil]; (try go_simp); try rfl
    apply mixS_take (i := 280) rfl (by decide) (want_st (j := 32) (i := 271) rfl o_32 rfl (by decide) (by first | rfl | simp [upd, *]))
    case hy => intro W' hW'; obtain ⟨hwc, -⟩ := bcell hW'; simp only [execOp, st_eval, st_const, st_func, upd, Nat.reduceLT, Nat.reduceEqDiff, if_true, if_false, ite_true, ite_false, reduceIte, iq14, iq8, List.map_toArray, List.map_cons, List.map_nil]; (try go_simp); try rfl
    refine mix_nil (HK.out _ _ ?_)
    generalize hf9 : upd _ _ _ = f9
    have hlow : ∀ j, j < 239 ∨ 282 ≤ j → f9 j = f0 j := fun j hj => by rw [← hf9]; repeat (rw [upd_ne (by omega)])
    have hA := st_lit38 f9 _ (by rfl) (fun j hj => (hlow j hj).trans (HF0.out j))
    simp only [List.take_succ_cons, List.take_zero, List.drop_succ_cons, List.drop_zero, List.cons_append, List.nil_append] at hA
    rw [hA]
    have p271 := congrFun hf9 271
    simp [upd, undef] at p271
    have p280 := congrFun hf9 280
    simp [upd, undef] at p280
    rw [← p271, ← p280]
    clear hf9 hA hlow p271 p280
    go_wp2
    go_meet
    case rel => exact ⟨rfl, (Below.refl _ _).drew⟩
  case rest =>
    obtain ⟨rfl, hb8⟩ := hcut
    obtain ⟨w8, hw8⟩ : ∃ w8, w8 = wc := ⟨_, rfl⟩
    rw [← hw8] at hb8 ⊢
    clear hw8 m0 m1 m2 m3 m4 hlm z1 z2 z4 hl8 p1 p2 p2' p3 p4
    have K8 := Lib.hid (H8.out.below hb8.out)
    have K9 := Lib.hid (H9.out.below hb8.out)
    have KB := Lib.hid (below_trans HB7.out hb8.out)
    obtain ⟨⟨m0, m1, m2, m3, m4⟩, -⟩ := blc5 (bl_below HM7.out hb8.out)
    have hlm := bl_lt (bl_below HM7.out hb8.out)
    obtain ⟨g9, cap9, hu9⟩ := K9.out.row (by rw [HLN.out]; omega)
    subst hu9
    obtain ⟨cur9, hcur9, -⟩ := K9.out.open
    obtain ⟨bq, oq, q', hAq, hq', y0, y1⟩ := (Own.rd K9.out).qa j (by rw [HLN.out]; exact hja)
    cases hAq
    obtain rfl : q = q' := Option.some.inj (HGET.out.symm.trans hq'.out)
    simp only [Nat.zero_add] at y0 y1
    have fz0 := bl_frozen hcur9 (j * 2)
    have fz1 := bl_frozen hcur9 (j * 2 + 1)
    have hlg := bl_lt hcur9
    clear hb8 hq' H8 H9 HB7 HM7
    rw [HLN.out] at K9 ⊢
    go_wp2
    refine ⟨⟨_, st_of 316 (by rfl), k + 1, _, _, by omega, rfl, rfl, rfl, by show _ = Value.int .i64 _; go_num, K8.out.setCell (K8.out.ne hcur9 (by decide)) _, by show Own _ _ _ _ _; rw [HOUT.out]; exact Own.store K9.out j 1 q (outA q) _ (by decide) HGET.out rfl, KB.out.setCell (K9.out.lt g9 rfl).1 _⟩, ?_⟩
    show x1.way.length - (intOf (.int .i64 ((k : Int) + 1))).toNat < x1.way.length - k
    simp [intOf]; omega
end Go.Proofs.Ythlbmcfliejdiaa
end

section
set_option linter.unusedVariables false
set_option linter.unusedSimpArgs false
namespace Go.Proofs.Ythlbmcfliejdiaa
open Go.RowKit

set_option maxHeartbeats 8000000 in
set_option maxRecDepth 100000 in
theorem NetConserves_any (n : Int) (xs : List Ac) (A : Option Addr) (c : Nat) (w : World) (hR : Rd w A xs) (hl : xs.length ≤ 9223372036854775807) :
    Calls Try.prog 4 #[.int .i64 n, .slice A xs.length c] w fun e w' => e = .returned (.bool true) ∧ Below w.heap.size w w' := by
  have HR := Lib.hid hR
  clear hR
  cases hf : fewB xs 300
  · have HFW := Lib.hid fun (w : World) (hR : Rd w A xs) => few_any A c xs 300 w hR hl
    rw [hf] at HFW
    clear hf
    go_enter Try.func4, Try.ntmps4
    go_wp2_with (first
      | (go_at_call 21; refine calls_below (HFW.out _ HR.out) ?_; intro w1 hb1)
      | (go_at_call 13; refine calls_below (sane_any _) ?_; intro w2 hb2))
    go_ret
    exact ⟨rfl, below_trans hb1 hb2⟩
  have hlx : xs.length ≤ 300 := by unfold fewB at hf; simp only [Bool.and_eq_true, decide_eq_true_eq] at hf; omega
  have hfw := fun (w : World) (hR : Rd w A xs) => few_any A c xs 300 w hR hl
  rw [hf] at hfw
  have HFW := Lib.hid hfw
  clear hf hfw hl
  by_cases hn : n < 1 ∨ 16 < n
  · have HP := Lib.hid fun (w : World) (v : Value) => Play_bad n v w hn
    go_enter Try.func4, Try.ntmps4
    go_wp2_with fail
    refine calls_below (HFW.out _ HR.out) ?_
    intro w1 hb1
    have hn' : (decide (n < 1) = true) ∨ (decide (n < 1) = false ∧ decide (16 < n) = true) := by
      by_cases h : n < 1
      · exact .inl (decide_eq_true h)
      · exact .inr ⟨decide_eq_false h, decide_eq_true (by omega)⟩
    clear hn
    go_wp2_with fail
    refine (HP.out _ _).mono ?_
    rintro e w2 ⟨rfl, hb2⟩
    simp only [zNetV]
    rcases hn' with d1 | ⟨d1, d2⟩
    all_goals
      go_wp2_with fail
      refine calls_below (sane_any _) ?_
      intro w3 hb3
      go_wp2
      go_ret
      exact ⟨rfl, below_trans hb1 (below_trans hb2 (below_trans (below_alloc (Below.refl _ _) _) hb3))⟩
  have h0 : 1 ≤ n := by omega
  have h1 : n ≤ 16 := by omega
  obtain ⟨x0, hx0⟩ : ∃ x, x = newX n := ⟨_, rfl⟩
  obtain ⟨S, hS⟩ : ∃ S, S = playS x0 xs := ⟨_, rfl⟩
  obtain ⟨x1, hx1⟩ : ∃ x, x = playX x0 xs := ⟨_, rfl⟩
  have hok0 : Ok x0 := by rw [hx0]; exact newX_ok h0 h1
  have hci : ConsI 0 x0 ⟨[], []⟩ := by rw [hx0]; exact cons_new
  have HP : Hid (∀ w, Rd w A xs → Calls Try.prog 22 #[.int .i64 n, .slice A xs.length c] w fun e w' => ∃ v A6 c6 rs, e = .returned (.tuple #[v, .slice A6 xs.length c6, .int .i64 0]) ∧ NetO w' w.heap.size v x1 ∧ Rd w' A6 rs ∧ Sns w' rs S ∧ rs.length = xs.length ∧ Below w.heap.size w w') := fun w hR => by
    refine (Play_good n xs A c w h0 h1 hR (by omega)).mono fun e w' h => ?_
    obtain ⟨v, u, rs, rfl, hn, ho, hs, hb⟩ := h
    obtain ⟨A6, c6, rfl, -, hR6⟩ := ho.slice
    rw [← hx0, ← hx1] at hn
    rw [← hx0, ← hS] at hs
    have hle : rs.length = xs.length := by rw [hs.1, hS, playS_length]
    exact ⟨v, A6, c6, rs, by rw [hle], hn, hR6, hs.is, hle, hb⟩
  have HCA : Hid (∀ k, k ≤ xs.length → Ok (playX x0 (xs.take k)) ∧ ConsI k (playX x0 (xs.take k)) (consF ⟨[], []⟩ (S.take k))) := fun k hk => ⟨play_keeps _ hok0, by rw [hS]; exact cons_at hok0 xs k hk hci⟩
  have HSG : Hid (∀ k d, xs[k]? = some d → S[k]? = some (doSR (playX x0 (xs.take k)) d)) := fun k d h => by rw [hS]; exact playS_get x0 xs k d h
  have HX1 : Hid (Ok x1 ∧ ConsI xs.length x1 (consF ⟨[], []⟩ S)) := by
    have h := HCA.out xs.length (Nat.le_refl _)
    have hSl : S.take xs.length = S := by rw [← playS_length x0 xs, ← hS, List.take_length]
    rw [List.take_length, hSl, ← hx1] at h
    exact h
  have HSL : Hid (S.length = xs.length) := by show _ = _; rw [hS, playS_length]
  clear hn h0 h1 hx0 hS hx1 hok0 hci
  go_enter Try.func4, Try.ntmps4
  go_wp2_with fail
  refine calls_below (HFW.out _ HR.out) ?_
  intro w1 hb1
  go_wp2_with fail
  refine (HP.out _ (HR.out.below hb1)).mono ?_
  rintro e w2 ⟨v2, A6, c6, rs, rfl, hN2, hR2, hS2, hrl, hb2⟩
  obtain ⟨AW, cW, AC, cC, AT, cT, rfl, oW, oC, oT⟩ := hN2
  go_upto_block 0 with fail
  obtain ⟨w3, hw3⟩ : ∃ w3, w3 = w2.alloc (.cells #[.int .i64 x1.nodes, .int .i64 x1.now, .int .i64 x1.next, .slice AW x1.way.length cW, .slice AC x1.cuts.length cC, .slice AT x1.timers.length cT] 26) := ⟨_, rfl⟩
  have hb23 : Below w2.heap.size w2 w3 := by rw [hw3]; exact below_alloc (Below.refl _ _) _
  have HZ3 : Hid (w3.heap[w2.heap.size]? = some (.cells #[.int .i64 x1.nodes, .int .i64 x1.now, .int .i64 x1.next, .slice AW x1.way.length cW, .slice AC x1.cuts.length cC, .slice AT x1.timers.length cT] 26 (0, 0))) := by rw [hw3]; exact bl_new _ _
  have HB3 : Hid (Below w.heap.size w w3) := below_trans hb1 (below_trans hb2 hb23)
  have HRL := Lib.hid (hR2.below hb23)
  have HSS := Lib.hid (hS2.below hb23)
  have HRW := Lib.hid (oW.rd.below hb23)
  have HRS : Hid (rs.length = xs.length) := hrl
  have HR3 := Lib.hid (HR.out.below HB3.out)
  rw [← hw3]
  clear hw3 hb23 hb1 hb2 hR2 hS2 hrl oW oC oT HP HFW HR
  go_wp2
  obtain ⟨g5, hg5⟩ : ∃ g, g = w2.heap.size := ⟨_, rfl⟩
  rw [← hg5] at HZ3 ⊢
  clear hg5
  refine wp_st 316 (by rfl) fun f0 hf0 => ?_
  refine wp_loop (consI xs A c A6 c6 g5 S w3) (consMu xs) ⟨f0, rfl, 0, _, _, Nat.zero_le _, (hf0 1).trans rfl, (hf0 5).trans rfl, (hf0 6).trans rfl, (hf0 8).trans rfl, (hf0 9).trans rfl, (hf0 10).trans rfl, (Own.nil _ _ _ : Own w3 w3.heap.size 33 (.slice none 0 0) ([] : List Lt)), (Own.nil _ _ _ : Own w3 w3.heap.size 57 (.slice none 0 0) ([] : List Acct)), Below.refl _ _⟩ ?_
  clear hf0 f0
  rintro a wr ⟨f, rfl, k, u8, u9, hk, h1, h5, h6, h8, h9, h10, hO8, hO9, hB⟩
  by_cases hlk : k < xs.length
  · have hsl : k < S.length := by rw [HSL.out]; exact hlk
    obtain ⟨s, hs⟩ : ∃ s, S[k]? = some s := ⟨S[k], List.getElem?_eq_getElem hsl⟩
    by_cases hsk : s.e ≠ 0 ∨ s.a.k < 1 ∨ 5 < s.a.k
    · exact cons_skip xs A c A6 c6 g5 S rs x0 w3 wr f _ k u8 u9 hlx hlk HR3 HRL HSS HRS HCA HSG h1 h5 h6 h8 h9 h10 hO8 hO9 hB (fun d _ _ _ _ h => by cases d <;> exact h) (fun s9 h9s => by obtain rfl : s = s9 := Option.some.inj (hs.symm.trans h9s); exact hsk)
    have he : s.e = 0 := by
      by_cases h : s.e = 0
      · exact h
      · exact absurd (.inl h) hsk
    obtain hk2 | hk2 | hk2 | hk2 | hk2 : s.a.k = 1 ∨ s.a.k = 2 ∨ s.a.k = 3 ∨ s.a.k = 4 ∨ s.a.k = 5 := by omega
    · exact cons_send xs A c A6 c6 g5 S rs x0 w3 wr f _ k u8 u9 hlx hlk HR3 HRL HSS HRS HCA HSG h1 h5 h6 h8 h9 h10 hO8 hO9 hB (fun d _ _ _ _ h => by cases d <;> exact h) (fun s9 h9s => by obtain rfl : s = s9 := Option.some.inj (hs.symm.trans h9s); exact ⟨he, hk2⟩)
    · exact cons_deliver xs A c A6 c6 g5 S rs x0 w3 wr f _ k u8 u9 hlx hlk HR3 HRL HSS HRS HCA HSG h1 h5 h6 h8 h9 h10 hO8 hO9 hB (fun d _ _ _ _ h => by cases d <;> exact h) (fun s9 h9s => by obtain rfl : s = s9 := Option.some.inj (hs.symm.trans h9s); exact ⟨he, hk2⟩)
    · exact cons_lose xs A c A6 c6 g5 S rs x0 w3 wr f _ k u8 u9 hlx hlk HR3 HRL HSS HRS HCA HSG h1 h5 h6 h8 h9 h10 hO8 hO9 hB (fun d _ _ _ _ h => by cases d <;> exact h) (fun s9 h9s => by obtain rfl : s = s9 := Option.some.inj (hs.symm.trans h9s); exact ⟨he, hk2⟩)
    · exact cons_double xs A c A6 c6 g5 S rs x0 w3 wr f _ k u8 u9 hlx hlk HR3 HRL HSS HRS HCA HSG h1 h5 h6 h8 h9 h10 hO8 hO9 hB (fun d _ _ _ _ h => by cases d <;> exact h) (fun s9 h9s => by obtain rfl : s = s9 := Option.some.inj (hs.symm.trans h9s); exact ⟨he, hk2⟩)
    · exact cons_delay xs A c A6 c6 g5 S rs x0 w3 wr f _ k u8 u9 hlx hlk HR3 HRL HSS HRS HCA HSG h1 h5 h6 h8 h9 h10 hO8 hO9 hB (fun d _ _ _ _ h => by cases d <;> exact h) (fun s9 h9s => by obtain rfl : s = s9 := Option.some.inj (hs.symm.trans h9s); exact ⟨he, hk2⟩)
  obtain rfl : k = xs.length := by omega
  have hSl : S.take xs.length = S := List.take_of_length_le (by rw [HSL.out]; exact Nat.le_refl _)
  rw [hSl] at hO8 hO9
  obtain ⟨⟨sent, all⟩, hcs⟩ : ∃ c : Cons, c = consF ⟨[], []⟩ S := ⟨_, rfl⟩
  have hx1 := HX1.out
  rw [← hcs] at hO8 hO9 hx1
  simp only at hO8 hO9
  have HX2 := Lib.hid hx1
  have hlen : sent.length ≤ 300 := Nat.le_trans hx1.2.ln hlx
  have hlen2 : all.length = sent.length := hx1.2.la
  obtain ⟨⟨k0, k1, k2, k3, k4, k5⟩, -⟩ := blc6 (bl_below HZ3.out hB.out)
  have hlz := bl_lt (bl_below HZ3.out hB.out)
  rw [st_all4, h1, h5, h6, h8, h9, h10]
  clear h1 h5 h6 h8 h9 h10 hSl hcs hx1 HX1 HCA HSG HRL HSS HRS HR3
  go_wp2
  refine wp_st 316 (by rfl) fun f1 hf1 => ?_
  refine wp_loop (wayI x1 g5 sent all w3) (wayMu x1) ⟨f1, rfl, 0, u8, u9, Nat.zero_le _, (hf1 5).trans rfl, (hf1 8).trans rfl, (hf1 9).trans rfl, (hf1 13).trans rfl, hO8, by show Own _ _ _ _ _; rw [List.take_zero]; exact hO9.out, hB⟩ ?_
  clear hf1 f1 hO8 hO9 hB k0 k1 k2 k3 k4 k5 hlz
  rintro a wr ⟨f, rfl, k, u8, u9, hk, h5, h8, h9, h13, hO8, hO9, hB⟩
  by_cases hlk : k < x1.way.length
  · exact cons_way_round x1 g5 sent all w3 wr f _ k xs.length u8 u9 AW AC AT cW cC cT hlx hlk HZ3 HRW HX2 h5 h8 h9 h13 hO8 hO9 hB (fun d _ _ _ _ h => by cases d <;> exact h)
  obtain rfl : k = x1.way.length := by omega
  rw [List.take_length] at hO9
  obtain ⟨all2, hall2⟩ : ∃ l, l = outW all x1.way := ⟨_, rfl⟩
  rw [← hall2] at hO9
  have heq : Hid (∀ (j : Nat) q, all2[j]? = some q → q.i = q.o) := fun j q h => by rw [hall2] at h; exact cons_end HX2.out.1 HX2.out.2 j q h
  have hal2 : all2.length ≤ 300 := by rw [hall2, outW_len]; omega
  have hlw : x1.way.length ≤ 200 := HX2.out.1.way
  clear hall2
  obtain ⟨⟨k0, k1, k2, k3, k4, k5⟩, -⟩ := blc6 (bl_below HZ3.out hB.out)
  have hlz := bl_lt (bl_below HZ3.out hB.out)
  rw [st_all4, h5, h8, h9, h13]
  clear h5 h8 h9 h13
  go_wp2
  refine wp_st 316 (by rfl) fun f2 hf2 => ?_
  refine wp_loop (allI x1 g5 sent all2 w3) (allMu all2) ⟨f2, rfl, 0, u8, u9, Nat.zero_le _, (hf2 5).trans rfl, (hf2 8).trans rfl, (hf2 9).trans rfl, (hf2 15).trans rfl, hO8, hO9, hB⟩ ?_
  clear hf2 f2 hO8 hO9 hB k0 k1 k2 k3 k4 k5 hlz
  rintro a wr ⟨f, rfl, k, u8, u9, hk, h5, h8, h9, h15, hO8, hO9, hB⟩
  by_cases hlk : k < all2.length
  · exact cons_all_round x1 g5 sent all2 w3 wr f _ k u8 u9 hal2 hlk heq h5 h8 h9 h15 hO8 hO9 hB (fun d _ _ _ _ h => by cases d <;> exact h)
  obtain rfl : k = all2.length := by omega
  obtain ⟨A8, c8, hu8, -, -⟩ := hO8.out.slice
  obtain ⟨A9, c9, hu9, -, -⟩ := hO9.out.slice
  rw [st_all4, h5, h8, h9, h15, hu8, hu9]
  have q1 : (x1.next == (sent.length : Int)) = true := beq_iff_eq.2 HX2.out.2.ls.symm
  clear h5 h8 h9 h15 hu8 hu9 hO8 hO9
  go_wp2_with fail
  refine calls_below (sane_any _) ?_
  intro w9 hb9
  have hb39 := below_trans hB.out hb9
  obtain ⟨⟨k0, k1, k2, k3, k4, k5⟩, -⟩ := blc6 (bl_below HZ3.out hb39)
  have hlz := bl_lt (bl_below HZ3.out hb39)
  go_wp2
  go_ret
  exact ⟨rfl, below_trans HB3.out hb39⟩
end Go.Proofs.Ythlbmcfliejdiaa
end

section
set_option linter.unusedVariables false
namespace Go.Proofs.Ythlbmcfliejdiaa.netConserves
open Go.ChangeShapes Go.WideShapes Go.ChangeAt Go.RowKit
theorem own : ownKnob Try.prog.godebug = none := by kernel_rfl
theorem laidOut : laidOutB Try.prog = true := by kernel_rfl
set_option maxRecDepth 100000 in
theorem lifted (os : Os) (started : os.Started) (H : Type) (enc : TypeId × Value → H) :
    ReturnsInHanded {} Try.checked os 4 .any (Rows.netConservesSpec.pre6 enc Try.prog Try.f4 Rows.netConservesRow.domain false) (Rows.netConservesSpec.post enc Try.prog Try.f4 false true false false) := by
  refine returnsInHanded_of_change_sized (C := Try.checked) own started (by kernel_rfl) Try.func4
    (ChangeSpec.witness6 (enc := enc) (C := Try.checked) false ⟨#[], #[.int .i64 0, .slice none 0 0], []⟩ 8 (by kernel_rfl) (by kernel_rfl) (by kernel_rfl) (by kernel_rfl)) ?_
  intro W base args ds gs before hval0 hW hcnd hsz0 _
  have hval : ∀ (j : Nat) t v, Try.f4.params[j]? = some t → args[j]? = some v → Value.okWide Try.prog W .any base t v := hval0
  have hW' := hW
  obtain ⟨p, q, hA0, hV, rfl, hfz, hnd⟩ := hW
  have hA : DataW.TrodAll enc Try.prog W 0 (fun _ => true) true Try.f4.params.toList args.toList ds p := hA0
  rw [Try.params4] at hA hval
  obtain ⟨v0, vs0, d0, ds0, p0, q0, hargs, rfl, rfl, h0, r0⟩ := trodAll_cons hA
  obtain ⟨v1, vs1, d1, ds1, p1, q1, rfl, rfl, rfl, h1, r1⟩ := trodAll_cons r0
  obtain ⟨rfl, rfl, rfl⟩ := trodAll_nil r1
  obtain rfl : args = #[v0, v1] := by cases args; simp_all
  obtain ⟨rfl, rfl⟩ := trodVars_none hV
  obtain ⟨a0, rfl, rfl, rfl, w0⟩ := open_int Try.underlying3 (hval 0 3 v0 rfl rfl) h0
  have k1 := h1
  have lt1 : ∀ x ∈ p1, x.block < W.heap.size := by obtain ⟨m, hm⟩ := k1; exact DataW.trod_lt m _ _ _ hm
  obtain ⟨A1, xs1, c1, rfl, hR1, hl1⟩ := Acts_open (hval 1 46 v1 rfl rfl) h1
  clear hA0 hval0 hsz0
  refine (NetConserves_any a0 xs1 A1 c1 W hR1 hl1).mono fun e W' ⟨he, bel⟩ => ?_
  subst he
  exact ⟨_, rfl, _, _, _, [], _, [], hW', trodAll_mk1 (shut_bool Try.underlying4 _), (trodAll_cons_mk (shut_int Try.underlying3 w0) (trodAll_cons_mk (Below.trod laidOut (by kernel_rfl) (of_decide_eq_true (by kernel_rfl)) k1 bel lt1) trodAll_mk0)), rfl, bel.frame _, fun h => by cases h⟩
theorem over : Rows.netConservesRow.holds Try.pinned (OpenSpec.ofChange Rows.netConservesSpec) :=
  OpenClaim.holds_of_wide 4 Try.f4 rfl rfl rfl rfl rfl rfl rfl ⟨rfl, rfl, rfl, rfl, rfl⟩ rfl rfl rfl rfl rfl (by kernel_rfl) Try.func4 (by kernel_rfl)
    (of_decide_eq_true (by kernel_rfl)) (by unfold Func.isWrapper; first | (rw [if_pos (by decide +kernel)]; kernel_rfl) | (rw [if_neg (by decide +kernel)]; exact ⟨rfl, rfl⟩))
    (fun os started H enc _ => lifted os started H enc)
theorem proved : Rows.NetConservesSaid := over
end Go.Proofs.Ythlbmcfliejdiaa.netConserves
namespace Go.Proofs.Ythlbmcfliejdiaa
theorem netConserves_holds : Rows.NetConservesSaid := netConserves.proved
end Go.Proofs.Ythlbmcfliejdiaa
end
