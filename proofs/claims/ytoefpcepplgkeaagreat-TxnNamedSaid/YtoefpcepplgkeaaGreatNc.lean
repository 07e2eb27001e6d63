/- The contracts of txn.isName and of the reference's IsName: both answer nameB. The reference's IsName answers nameB. -/
import Derived.Test.YtoefpcepplgkeaaGreatNa
import Derived.Lib.OthersKept
import Derived.Lib.TrimU
import Derived.Deep.LoopGhost
import Derived.Shelf.GgClosure.StringsIndexFunc
section
set_option linter.unusedVariables false
set_option linter.unusedSimpArgs false
namespace Go.Proofs.YtoefpcepplgkeaaGreat
open Go.RowKit

/-- A byte that no name has; a rune alike. -/
def badB (b : UInt8) : Bool := decide (b.toNat < 33) || decide (126 < b.toNat)
def badR (r : Nat) : Bool := decide (r < 33) || decide (126 < r)
/-- Is there a byte that no name has, from place i on, at most n of them. -/
def badFrom (s : ByteArray) : Nat → Nat → Bool
  | 0, _ => false
  | n + 1, i => badB (s.get! i) || badFrom s n (i + 1)
def nameB (s : ByteArray) : Bool := decide (1 ≤ s.size) && decide (s.size ≤ 24) && !badFrom s s.size 0

theorem dec_bad (s : ByteArray) (pos : Nat) : badR (Utf8.decode s pos).1 = badB (s.get! pos) ∧ (badB (s.get! pos) = false → (Utf8.decode s pos).2 = 1) := by
  have hb : ∀ b : UInt8, b.toNat < 256 := fun b => UInt8.toNat_lt b
  unfold Utf8.decode
  simp only [Nat.add_zero]
  have h0 := hb (s.get! pos)
  by_cases h : (s.get! pos).toNat < 128
  · rw [if_pos h]
    exact ⟨rfl, fun _ => rfl⟩
  · rw [if_neg h]
    have hB : badB (s.get! pos) = true := by simp [badB]; omega
    rw [hB]
    refine ⟨?_, fun e => nomatch e⟩
    simp only [badR, Bool.or_eq_true, decide_eq_true_eq]
    right
    split
    · split
      · show 126 < _; omega
      · simp [Utf8.runeError]
    · split
      · split
        · rename_i h2; simp only [Bool.and_eq_true, decide_eq_true_eq] at h2; show 126 < _; omega
        · simp [Utf8.runeError]
      · split
        · split
          · rename_i h2; simp only [Bool.and_eq_true, decide_eq_true_eq] at h2; show 126 < _; omega
          · simp [Utf8.runeError]
        · simp [Utf8.runeError]

theorem idx_bad (s : ByteArray) : ∀ (n pos : Nat), pos + n = s.size → decide (0 ≤ Lib.idxFuncFrom badR true s n pos) = badFrom s n pos
  | 0, pos, h => by simp [Lib.idxFuncFrom, badFrom]
  | n + 1, pos, h => by
    have hd := dec_bad s pos
    unfold Lib.idxFuncFrom badFrom
    rw [if_pos (by omega), hd.1]
    cases hb : badB (s.get! pos)
    · rw [hd.2 hb]
      simp only [Bool.false_eq_true, if_false, Bool.false_or]
      exact idx_bad s n (pos + 1) (by omega)
    · simp

set_option maxHeartbeats 2000000 in
theorem bad_any (x : Nat) (hx : x ≤ 1114111) (w : World) : Calls Tryz.prog 38 #[.int .i32 x] w fun e w' => e = .returned (.bool (badR x)) ∧ w' = w := by
  by_cases h : x < 33
  · go_enter Tryz.func38, Tryz.ntmps38
    go_wp2
    go_ret
    exact ⟨ret_bool (by simp [badR, h]), rfl⟩
  · by_cases h2 : 126 < x
    · go_enter Tryz.func38, Tryz.ntmps38
      go_wp2
      go_ret
      exact ⟨ret_bool (by simp [badR, h2]; omega), rfl⟩
    · go_enter Tryz.func38, Tryz.ntmps38
      go_wp2
      go_ret
      exact ⟨ret_bool (by simp [badR, h, h2]; omega), rfl⟩

set_option maxHeartbeats 2000000 in
set_option maxRecDepth 1000000 in
theorem indexFunc_any (s : ByteArray) (w : World) : Calls Tryz.prog 103 #[.string s, .func (.func 38) #[] #[], .bool true] w fun e w' => e = .returned (.int .i64 (Lib.idxFunc badR true s)) ∧ Below w.heap.size w w' := by
  have e38 : ∀ args w, (callFunc 38 args).run Tryz.prog w = .ok (.enter 38 args) w := Tryz.call38
  go_enter Tryz.func103, Tryz.ntmps103
  go_wp2
  go_loopg [] s.size (fun gf wx => ∃ pos : Nat, wx.heap[w.heap.size]? = some (.stringIter s pos) ∧ Below w.heap.size w wx ∧ Lib.idxFuncFrom badR true s gf pos = Lib.idxFunc badR true s ∧ s.size ≤ pos + gf)
  case atStart => exact ⟨0, World.iter_heap w s 0, (Below.refl _ w).alloc (Nat.le_refl _) _, rfl, by omega⟩
  case round =>
    obtain ⟨pos, hit, hbw, hleft, hfu⟩ := hrel
    by_cases hps : pos < s.size
    · obtain ⟨g', rfl⟩ : ∃ g', gk = g' + 1 := ⟨gk - 1, by omega⟩
      have hnx : ∀ ty, (Instr.next (.pointer (some ⟨w.heap.size, 0, none⟩)) true ty).run Tryz.prog wr = _ := fun ty => Lib.run_next_any_at wr w.heap.size s pos ty hit hps
      have hwd := Lib.width_pos s pos
      have hru := Lib.rune_le s pos
      obtain ⟨R, hR⟩ : ∃ R, (Utf8.decode s pos).1 = R := ⟨_, rfl⟩
      obtain ⟨K, hK⟩ : ∃ K, (Utf8.decode s pos).2 = K := ⟨_, rfl⟩
      simp only [Lib.idxFuncFrom, hps, if_true, hR, hK] at hleft
      rw [hR, hK] at hnx
      rw [hK] at hwd
      rw [hR] at hru
      have hit2 := Lib.iterAt_heap wr w.heap.size s pos (pos + K) hit
      have hbw2 := Lib.below_iterAt hbw (k := w.heap.size) (Nat.le_refl _) s (pos + K)
      obtain ⟨W, hWd⟩ : ∃ W, wr.iterAt w.heap.size s (pos + K) = W := ⟨_, rfl⟩
      rw [hWd] at hnx hit2 hbw2
      have cS := bad_any R hru W
      cases hsp : badR R <;> rw [hsp] at cS <;> simp only [hsp, if_true, Bool.false_eq_true, Bool.true_eq_false, if_false] at hleft
      · go_wp2_with (go_at_fn 38; refine cS.mono ?_; rintro e W' ⟨rfl, rfl⟩)
        go_roundg g'
        case measure => omega
        case rel => exact ⟨pos + K, hit2, hbw2, hleft, by omega⟩
      · go_wp2_with (go_at_fn 38; refine cS.mono ?_; rintro e W' ⟨rfl, rfl⟩)
        go_ret
        exact ⟨by rw [← hleft] <;> rfl, hbw2⟩
    · have hnx : ∀ ty, (Instr.next (.pointer (some ⟨w.heap.size, 0, none⟩)) true ty).run Tryz.prog wr = _ := fun ty => Lib.run_next_end_at wr w.heap.size s pos ty hit hps
      rw [Lib.idxFuncFrom_end badR true s gk pos hps] at hleft
      go_wp2
      go_ret
      exact ⟨by rw [← hleft] <;> rfl, hbw⟩

set_option maxHeartbeats 1000000 in
theorem ContainsFunc_any (s : ByteArray) (w : World) : Calls Tryz.prog 37 #[.string s, .func (.func 38) #[] #[]] w fun e w' => e = .returned (.bool (badFrom s s.size 0)) ∧ Below w.heap.size w w' := by
  obtain ⟨I, hI⟩ : ∃ I, Lib.idxFunc badR true s = I := ⟨_, rfl⟩
  have hbad : badFrom s s.size 0 = decide (0 ≤ I) := by rw [← hI, ← idx_bad s s.size 0 (by omega)]; rfl
  have c3 := fun w => indexFunc_any s w
  have e103 : ∀ args w, (callFunc 103 args).run Tryz.prog w = .ok (.enter 103 args) w := Tryz.call103
  have e65 : ∀ args w, (callFunc 65 args).run Tryz.prog w = .ok (.enter 65 args) w := Tryz.call65
  rw [hI] at c3
  have c2 : ∀ w, Calls Tryz.prog 65 #[.string s, .func (.func 38) #[] #[]] w fun e w' => e = .returned (.int .i64 I) ∧ Below w.heap.size w w' := by
    intro w
    go_enter Tryz.func65, Tryz.ntmps65
    go_wp2_with (go_at_fn 103; refine (c3 _).mono ?_; rintro e w' ⟨rfl, hb⟩)
    go_ret
    exact ⟨rfl, hb⟩
  by_cases h0 : 0 ≤ I
  all_goals
    go_enter Tryz.func37, Tryz.ntmps37
    go_wp2_with (go_at_fn 65; refine (c2 _).mono ?_; rintro e w' ⟨rfl, hb⟩)
    go_ret
    exact ⟨ret_bool (by simp [hbad, h0]), by assumption⟩

set_option maxHeartbeats 1000000 in
theorem isName_any (s : ByteArray) (w : World) : Calls Tryz.prog 17 #[.string s] w fun e w' => e = .returned (.bool (nameB s)) ∧ Below w.heap.size w w' := by
  have c1 := fun w => ContainsFunc_any s w
  obtain ⟨F, hF⟩ : ∃ F, badFrom s s.size 0 = F := ⟨_, rfl⟩
  rw [hF] at c1
  have e37 : ∀ args w, (callFunc 37 args).run Tryz.prog w = .ok (.enter 37 args) w := Tryz.call37
  by_cases h1 : 1 ≤ s.size
  · by_cases h2 : s.size ≤ 24
    · cases F
      all_goals
        go_enter Tryz.func17, Tryz.ntmps17
        go_wp2_with (go_at_fn 37; refine (c1 _).mono ?_; rintro e w' ⟨rfl, hb⟩)
        go_ret
        exact ⟨ret_bool (by simp [nameB, hF, h1, h2]), by assumption⟩
    · go_enter Tryz.func17, Tryz.ntmps17
      go_wp2
      go_ret
      exact ⟨ret_bool (by simp [nameB, hF, h1, h2]), Below.refl _ _⟩
  · go_enter Tryz.func17, Tryz.ntmps17
    go_wp2
    go_ret
    exact ⟨ret_bool (by simp [nameB, hF, h1]), Below.refl _ _⟩
end Go.Proofs.YtoefpcepplgkeaaGreat
end

section
set_option linter.unusedVariables false
set_option linter.unusedSimpArgs false
namespace Go.Proofs.YtoefpcepplgkeaaGreat
open Go.RowKit
theorem badFrom_at (s : ByteArray) (k : Nat) (h : k < s.size) : badFrom s (s.size - k) k = (badB s[k] || badFrom s (s.size - (k + 1)) (k + 1)) := by
  rw [show s.size - k = s.size - (k + 1) + 1 by omega]
  show (badB (s.get! k) || _) = _
  congr 2
  show s.data[k]! = s.data[k]
  exact getElem!_pos s.data k h

set_option maxHeartbeats 2000000 in
set_option maxRecDepth 100000 in
theorem IsName_any (s : ByteArray) (w : World) (hl : s.size ≤ 9223372036854775807) : Calls Tryz.prog 21 #[.string s] w fun e w' => e = .returned (.bool (nameB s)) ∧ Below w.heap.size w w' := by
  go_enter Tryz.func21, Tryz.ntmps21
  go_wp2
  go_loopw [3] (fun i wr => ∃ k : Nat, k ≤ s.size ∧ i = .int .i64 (k : Int) ∧ Hid (badFrom s s.size 0 = badFrom s (s.size - k) k) ∧ wr = w) (fun i _ => s.size - (intOf i).toNat)
  case atStart => exact ⟨0, Nat.zero_le _, rfl, rfl, rfl⟩
  case round =>
    obtain ⟨k, hk, rfl, ho, rfl⟩ := hrel
    by_cases hlt : k < s.size
    · have hd := badFrom_at s k hlt
      obtain ⟨x, hx⟩ : ∃ x, (s[k]'hlt) = x := ⟨_, rfl⟩
      rw [hx] at hd
      have h0 : (0 : Int) ≤ k := by omega
      have hw : IntKind.i64.wrap ((k : Int) + 1) = (k : Int) + 1 := IntWalk.i64_in _ (by omega)
      replace hl : Hid (s.size ≤ 9223372036854775807) := hl
      by_cases hb1 : x.toNat < 33
      · have hbad : badB x = true := by simp [badB, hb1]
        rw [hbad, Bool.true_or] at hd
        replace hd : Hid (_ = _) := hd
        go_wp2
        go_ret
        exact ⟨ret_bool (by have h1 := ho.out; have h2 := hd.out; simp [nameB, h1, h2]), Below.refl _ _⟩
      · by_cases hb2 : 126 < x.toNat
        · have hbad : badB x = true := by simp [badB, hb2]
          rw [hbad, Bool.true_or] at hd
          replace hd : Hid (_ = _) := hd
          go_wp2
          go_ret
          exact ⟨ret_bool (by have h1 := ho.out; have h2 := hd.out; simp [nameB, h1, h2]), Below.refl _ _⟩
        · have hbad : badB x = false := by simp [badB, hb1, hb2]
          rw [hbad, Bool.false_or] at hd
          replace hd : Hid (_ = _) := hd
          go_wp2
          go_roundw
          case rel => exact ⟨k + 1, hlt, by go_num, by show _ = _; rw [ho.out, hd.out], trivial⟩
          case measure => simp [intOf]; omega
    · have hks : k = s.size := by omega
      have hend : badFrom s s.size 0 = false := by rw [ho.out, hks, Nat.sub_self]; rfl
      replace hend : Hid (_ = _) := hend
      replace hl : Hid (s.size ≤ 9223372036854775807) := hl
      clear ho
      by_cases h1 : 1 ≤ s.size
      · by_cases h2 : s.size ≤ 24
        · go_wp2
          go_ret
          exact ⟨ret_bool (by have h3 := hend.out; simp [nameB, h3, h1, h2]; omega), Below.refl _ _⟩
        · go_wp2
          go_ret
          exact ⟨ret_bool (by have h3 := hend.out; simp [nameB, h3, h1, h2]; omega), Below.refl _ _⟩
      · go_wp2
        go_ret
        exact ⟨ret_bool (by have h3 := hend.out; simp [nameB, h3, h1]), Below.refl _ _⟩
end Go.Proofs.YtoefpcepplgkeaaGreat
end
