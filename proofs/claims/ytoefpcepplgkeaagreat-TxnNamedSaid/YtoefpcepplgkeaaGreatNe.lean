/- slices.Grow of nil and slices.Concat at bytes; four and big. The contracts of number and small: both answer num4. -/
import Derived.Test.YtoefpcepplgkeaaGreatNa
import Derived.Lib.AppendZeros
import Derived.Deep.QuietTactic
import Derived.Laws.BitsAllLaws
section
set_option linter.unusedVariables false
set_option linter.unusedSimpArgs false
namespace Go.Proofs.YtoefpcepplgkeaaGreat
open Go.RowKit
theorem info5 : (Tryz.prog.info? 5).map (fun i => (i.zero, i.size, i.bytes)) = some (some (.int .u8 0), 1, 1) := by kernel_rfl

set_option maxHeartbeats 2000000 in
set_option maxRecDepth 100000 in
theorem four_any (n : Int) (w : World) : Calls Tryz.prog 20 #[.int .i64 n] w fun e w' => e = .returned (.slice (some ⟨w.heap.size, 0, none⟩) 4 4) ∧
    w' = w.alloc (.cells #[.int .u8 (byteOf (n / 16777216)).toNat, .int .u8 (byteOf (n / 65536)).toNat, .int .u8 (byteOf (n / 256)).toNat, .int .u8 (byteOf n).toNat] 5) := by
  go_enter Tryz.func20, Tryz.ntmps20
  go_wp2
  go_ret
  simp only [byteOf_toNat]
  exact ⟨rfl, trivial⟩
set_option maxHeartbeats 2000000 in
set_option maxRecDepth 100000 in
theorem big_any (n : Int) (h0 : 0 ≤ n) (h63 : n ≤ 9223372036854775807) (w : World) : Calls Tryz.prog 23 #[.int .i64 n] w fun e w' => e = .returned (.string ⟨(be4 n).toArray⟩) ∧ Below w.heap.size w w' := by
  have q1 : Int.tdiv n 16777216 = n / 16777216 := Int.tdiv_eq_ediv_of_nonneg h0
  have q2 : Int.tdiv n 65536 = n / 65536 := Int.tdiv_eq_ediv_of_nonneg h0
  have q3 : Int.tdiv n 256 = n / 256 := Int.tdiv_eq_ediv_of_nonneg h0
  have p1 : wrap64 (n / 16777216) = n / 16777216 := by unfold wrap64; omega
  have p2 : wrap64 (n / 65536) = n / 65536 := by unfold wrap64; omega
  have p3 : wrap64 (n / 256) = n / 256 := by unfold wrap64; omega
  have r1 : Int.tmod (n / 16777216) 256 = n / 16777216 % 256 := Int.tmod_eq_emod_of_nonneg (by omega)
  have r2 : Int.tmod (n / 65536) 256 = n / 65536 % 256 := Int.tmod_eq_emod_of_nonneg (by omega)
  have r3 : Int.tmod (n / 256) 256 = n / 256 % 256 := Int.tmod_eq_emod_of_nonneg (by omega)
  have hR := Rd.bytes (be4 n) (bl_new w (.cells #[.int .u8 (n / 16777216 % 256), .int .u8 (n / 65536 % 256), .int .u8 (n / 256 % 256), .int .u8 (n % 256)] 5)) (by simp [flat, be4, Enc.enc, byteOf_toNat])
  have hR0 := Lib.hid hR
  clear hR
  go_enter Tryz.func23, Tryz.ntmps23
  go_wp2_with ((with_reducible refine stop_conv _ 70 9 (.tmp 18) ?hst ?_); (case hst => rfl))
  change wpList _ _ _ _ _ _
  refine wpList_conv _ (by rfl) 70 9 5 (.tmp 18) (by rfl) Tryz.underlying70 Tryz.underlying5 Tryz.underlying9 _ _ (be4 n) 4 (by rfl) (by rfl) hR0.out ?_
  go_wp2
  go_ret
  exact ⟨rfl, below_alloc (Below.refl _ _) _⟩

set_option maxHeartbeats 2000000 in
set_option maxRecDepth 100000 in
theorem Grow_any (n : Nat) (hn : n ≤ 140737488355328) (w : World) : Calls Tryz.prog 39 #[.slice none 0 0, .int .i64 n] w fun e w' => ∃ v, e = .returned v ∧ Own w' w.heap.size 5 v ([] : List UInt8) ∧ Below w.heap.size w w' := by
  rcases Nat.eq_zero_or_pos n with rfl | hpos
  · go_enter Tryz.func39, Tryz.ntmps39
    go_wp2
    go_ret
    exact ⟨_, rfl, Own.nil _ _ _, Below.refl _ _⟩
  · obtain ⟨i0, hi, hz⟩ := Option.map_eq_some_iff.1 info5
    simp only [Prod.mk.injEq] at hz
    obtain ⟨hz0, hz1, hz2⟩ := hz
    have hrun := fun ty => Lib.run_append_nil_zeros (P := Tryz.prog) w 70 3 ty 5 i0 (.int .u8 0) .i64 .i64 Tryz.underlying70 Tryz.underlying3 hi hz0 n hpos (by omega) (by omega) (by rw [hz2]; omega)
    have hge := grownCap_ge w n 0 5
    have hle := grownCap_le_maxLen w n 0 5 (by simp only [maxLen]; omega)
    simp only [maxLen] at hle
    obtain ⟨G, hG⟩ : ∃ G, grownCap w n 0 5 = G := ⟨_, rfl⟩
    rw [hG] at hrun hge hle
    go_enter Tryz.func39, Tryz.ntmps39
    go_wp2_with (at_builtin; refine Lib.wpList_append_run _ rfl _ _ _ _ rfl _ _ rfl rfl _ _ (hrun _) ?_)
    go_ret
    refine ⟨_, rfl, (Own.room w 5 _ G (by simp [size_zeroCells, show Enc.sz UInt8 = 1 from rfl]; omega) (by simp only [maxLen]; omega)).drew, (below_alloc (Below.refl _ _) _).drew⟩

/-- Slices in a slice: where each begins, what it holds, its capacity. -/
def RdR {α : Type} [Enc α] (w : World) (A : Option Addr) (rs : List (Option Addr × List α × Nat)) : Prop :=
  ∀ i r, rs[i]? = some r → (∃ b off, A = some ⟨b, off, none⟩ ∧ w.cell? ⟨b, off + i, none⟩ = some (.slice r.1 r.2.1.length r.2.2)) ∧ Rd w r.1 r.2.1
theorem RdR.below {α : Type} [Enc α] {w w1 : World} {A : Option Addr} {rs : List (Option Addr × List α × Nat)} (h : RdR w A rs) (hb : Below w.heap.size w w1) : RdR w1 A rs := fun i r hr => by
  obtain ⟨⟨b, off, e, hc⟩, hR⟩ := h i r hr
  exact ⟨⟨b, off, e, cell_below hb hc⟩, hR.below hb⟩
/-- What they hold together. -/
def allOf {α : Type} (rs : List (Option Addr × List α × Nat)) : List α := rs.flatMap (·.2.1)
theorem allOf_take {α : Type} (rs : List (Option Addr × List α × Nat)) (k : Nat) (r : Option Addr × List α × Nat) (h : rs[k]? = some r) : allOf (rs.take (k + 1)) = allOf (rs.take k) ++ r.2.1 := by
  unfold allOf
  rw [List.take_add_one, h, List.flatMap_append]
  simp
theorem allOf_le {α : Type} (rs : List (Option Addr × List α × Nat)) (k : Nat) : (allOf (rs.take k)).length ≤ (allOf rs).length := by
  have h : allOf rs = allOf (rs.take k) ++ allOf (rs.drop k) := by unfold allOf; rw [← List.flatMap_append, List.take_append_drop]
  rw [h, List.length_append]
  omega

set_option maxHeartbeats 4000000 in
set_option maxRecDepth 100000 in
theorem Concat_any (A : Option Addr) (c : Nat) (rs : List (Option Addr × List UInt8 × Nat)) (w : World) (hl : (allOf rs).length ≤ 140737488355328) (hn : rs.length ≤ 9223372036854775807) (hR : RdR w A rs) :
    Calls Tryz.prog 19 #[.slice A rs.length c] w fun e w' => ∃ v, e = .returned v ∧ Own w' w.heap.size 5 v (allOf rs) ∧ Below w.heap.size w w' := by
  go_enter Tryz.func19, Tryz.ntmps19
  go_wp2
  go_loopw [3, 5, 11] (fun s t i wr => ∃ k : Nat, k ≤ rs.length ∧ i = .int .i64 (k : Int) ∧ s = .int .i64 ((allOf (rs.take k)).length : Int) ∧ wr = w) (fun s t i _ => rs.length - (intOf i).toNat)
  case atStart => exact ⟨0, Nat.zero_le _, rfl, rfl, rfl⟩
  case round =>
    obtain ⟨k, hk, rfl, rfl, hwr⟩ := hrel
    have hwr := hwr.symm
    subst hwr
    by_cases hlt : k < rs.length
    · obtain ⟨r, hr⟩ : ∃ r, rs[k]? = some r := ⟨_, List.getElem?_eq_getElem hlt⟩
      obtain ⟨⟨b, off, rfl, hc⟩, -⟩ := hR k r hr
      have ht := allOf_take rs k r hr
      have hle := allOf_le rs (k + 1)
      rw [ht, List.length_append] at hle
      obtain ⟨m, hm⟩ : ∃ m, (allOf (rs.take k)).length = m := ⟨_, rfl⟩
      obtain ⟨q, hq⟩ : ∃ q, r.2.1.length = q := ⟨_, rfl⟩
      rw [hm, hq] at hle
      rw [hq] at hc
      rw [hm]
      have hw : IntKind.i64.wrap ((m : Int) + q) = (m : Int) + q := IntWalk.i64_in _ (by omega)
      have hw2 : IntKind.i64.wrap ((k : Int) + 1) = (k : Int) + 1 := IntWalk.i64_in _ (by omega)
      have h0 : ¬ ((m : Int) + q < 0) := by omega
      have h1 : (0 : Int) ≤ k := by omega
      have HR := Lib.hid hR
      have HT := Lib.hid ht
      have HM := Lib.hid hm
      have HQ := Lib.hid hq
      clear hR ht hm hq hr
      go_wp2
      go_roundw
      case rel => exact ⟨k + 1, hlt, by go_num, by rw [HT.out, List.length_append, HM.out, HQ.out]; go_num, trivial⟩
      case measure => simp [intOf]; omega
    · have hke : k = rs.length := by omega
      subst hke
      rw [List.take_length]
      have cG := Grow_any (allOf rs).length hl w
      obtain ⟨L, hL⟩ : ∃ L, (allOf rs).length = L := ⟨_, rfl⟩
      rw [hL] at cG
      rw [hL]
      have e39 : ∀ args w, (callFunc 39 args).run Tryz.prog w = .ok (.enter 39 args) w := Tryz.call39
      have HR := Lib.hid hR
      have HL := Lib.hid hL
      have HL2 := Lib.hid hl
      have HN := Lib.hid hn
      clear hR hL hl hn hk hlt
      go_wp2_with fail
      refine cG.mono ?_
      rintro e w1 ⟨v, rfl, ho, hb⟩
      have HO := Lib.hid ho
      have HB := Lib.hid hb
      clear ho hb cG e39
      go_wp2
      go_loopw [6, 8, 27] (fun v s i w2 => ∃ k : Nat, k ≤ rs.length ∧ i = .int .i64 (k : Int) ∧ Own w2 w.heap.size 5 v (allOf (rs.take k)) ∧ Below w.heap.size w w2) (fun v s i _ => rs.length - (intOf i).toNat)
      case atStart => exact ⟨0, Nat.zero_le _, rfl, by simpa [allOf] using HO.out, HB.out⟩
      case round =>
        obtain ⟨k, hk, rfl, ho, hb⟩ := hrel
        by_cases hlt : k < rs.length
        · obtain ⟨r, hr⟩ : ∃ r, rs[k]? = some r := ⟨_, List.getElem?_eq_getElem hlt⟩
          obtain ⟨⟨b, off, rfl, hc⟩, hRr⟩ := (HR.out.below hb) k r hr
          have ht := allOf_take rs k r hr
          have hle := allOf_le rs (k + 1)
          rw [ht, List.length_append] at hle
          have hh := HL2.out
          have hnn := HN.out
          have hsz := hb.size
          have hw2 : IntKind.i64.wrap ((k : Int) + 1) = (k : Int) + 1 := IntWalk.i64_in _ (by omega)
          have h1 : (0 : Int) ≤ k := by omega
          have Hle : Hid (((allOf (rs.take k)).length + r.2.1.length) * 1 ≤ 140737488355328) := by show _ ≤ _; omega
          have Hsz := Lib.hid hsz
          have HT := Lib.hid ht
          have Ho := Lib.hid ho
          have Hb := Lib.hid hb
          have HRr := Lib.hid hRr
          clear ht hr ho hb hRr hle hh hnn hsz
          go_wp2_with (at_builtin; refine wpList_app _ w.heap.size rfl (.tmp 31) (.tmp 32) 70 5 _ 1 rfl Tryz.underlying70 info5 rfl (by decide) (by decide) _ (allOf (rs.take k)) r.2.1 r.1 r.2.2 rfl rfl Ho.out HRr.out Hsz.out Hle.out ?_; intro v1 w3 ho1 hg1 hz1; have Ho1 := Lib.hid ho1; have Hg1 := Lib.hid hg1; clear ho1 hg1 hz1)
          go_roundw
          case rel => exact ⟨k + 1, hlt, by go_num, by rw [HT.out]; exact Ho1.out, Hb.out.grown Hg1.out Hsz.out (fun j hj => (Ho.out.lt j hj).1)⟩
          case measure => simp [intOf]; omega
        · have hke : k = rs.length := by omega
          subst hke
          rw [List.take_length] at ho
          have Ho := Lib.hid ho
          have Hb := Lib.hid hb
          clear ho hb
          go_wp2
          go_ret
          exact ⟨_, rfl, Ho.out, Hb.out⟩
end Go.Proofs.YtoefpcepplgkeaaGreat
end

section
set_option linter.unusedVariables false
set_option linter.unusedSimpArgs false
namespace Go.Proofs.YtoefpcepplgkeaaGreat
open Go.RowKit

theorem i64_or_nat (a b : Nat) (ha : a < 9223372036854775808) (hb : b < 9223372036854775808) : bits .or .i64 (a : Int) (b : Int) = ((a ||| b : Nat) : Int) := by
  have hx : a ||| b < 2 ^ 63 := Nat.or_lt_two_pow (by omega) (by omega)
  show IntKind.i64.wrap ((BitVec.ofInt 64 (a : Int) ||| BitVec.ofInt 64 (b : Int)).toNat : Int) = _
  rw [BitVec.toNat_or, ofInt_u64 a (by omega), ofInt_u64 b (by omega), IntKind.wrap_i64]
  omega
/-- Bits that lie apart: or is plus. -/
theorem i64_or_add (a b k : Nat) (hb : b < 2 ^ k) (h : a * 2 ^ k + b < 9223372036854775808) : bits .or .i64 ((a * 2 ^ k : Nat) : Int) (b : Int) = ((a * 2 ^ k + b : Nat) : Int) := by
  rw [i64_or_nat _ _ (by omega) (by omega), ← Nat.shiftLeft_eq, Nat.shiftLeft_add_eq_or_of_lt hb]
def num4 (b0 b1 b2 b3 : UInt8) : Nat := b0.toNat * 16777216 + b1.toNat * 65536 + b2.toNat * 256 + b3.toNat
theorem num4_or (b0 b1 b2 b3 : UInt8) : bits .or .i64 (bits .or .i64 (bits .or .i64 (wrap64 (wrap64 (b0.toNat : Int) * 16777216)) (wrap64 (wrap64 (b1.toNat : Int) * 65536))) (wrap64 (wrap64 (b2.toNat : Int) * 256))) (wrap64 (b3.toNat : Int)) = (num4 b0 b1 b2 b3 : Int) := by
  have h0 := UInt8.toNat_lt b0
  have h1 := UInt8.toNat_lt b1
  have h2 := UInt8.toNat_lt b2
  have h3 := UInt8.toNat_lt b3
  have e0 : wrap64 (wrap64 (b0.toNat : Int) * 16777216) = ((b0.toNat * 2 ^ 24 : Nat) : Int) := by unfold wrap64; omega
  have e1 : wrap64 (wrap64 (b1.toNat : Int) * 65536) = ((b1.toNat * 65536 : Nat) : Int) := by unfold wrap64; omega
  have e2 : wrap64 (wrap64 (b2.toNat : Int) * 256) = ((b2.toNat * 256 : Nat) : Int) := by unfold wrap64; omega
  have e3 : wrap64 (b3.toNat : Int) = ((b3.toNat : Nat) : Int) := by unfold wrap64; omega
  rw [e0, e1, e2, e3, i64_or_add _ _ 24 (by omega) (by omega)]
  rw [show b0.toNat * 2 ^ 24 + b1.toNat * 65536 = (b0.toNat * 256 + b1.toNat) * 2 ^ 16 by omega, i64_or_add _ _ 16 (by omega) (by omega)]
  rw [show (b0.toNat * 256 + b1.toNat) * 2 ^ 16 + b2.toNat * 256 = ((b0.toNat * 256 + b1.toNat) * 256 + b2.toNat) * 2 ^ 8 by omega, i64_or_add _ _ 8 (by omega) (by omega)]
  unfold num4
  exact congrArg Nat.cast (by omega)

set_option maxHeartbeats 2000000 in
set_option maxRecDepth 100000 in
theorem number_any (b0 b1 b2 b3 : UInt8) (w : World) : Calls Tryz.prog 24 #[.string ⟨⟨[b0, b1, b2, b3]⟩⟩] w fun e w' => e = .returned (.int .i64 (num4 b0 b1 b2 b3)) ∧ ∃ q, w' = w.drewN q := by
  have hs : (ByteArray.mk ⟨[b0, b1, b2, b3]⟩).size = 4 := rfl
  go_enter Tryz.func24, Tryz.ntmps24
  go_wp2_with fail
  go_quiet (fail)
  go_wp2
  go_ret
  exact ⟨ret_int (num4_or b0 b1 b2 b3), _, rfl⟩

set_option maxHeartbeats 2000000 in
set_option maxRecDepth 100000 in
theorem small_any (b0 b1 b2 b3 : UInt8) (w : World) : Calls Tryz.prog 25 #[.string ⟨⟨[b0, b1, b2, b3]⟩⟩] w fun e w' => e = .returned (.int .i64 (num4 b0 b1 b2 b3)) ∧ w' = w := by
  have hs : (ByteArray.mk ⟨[b0, b1, b2, b3]⟩).size = 4 := rfl
  have h0 := UInt8.toNat_lt b0
  have h1 := UInt8.toNat_lt b1
  have h2 := UInt8.toNat_lt b2
  have h3 := UInt8.toNat_lt b3
  have g0 : (ByteArray.mk ⟨[b0, b1, b2, b3]⟩)[0] = b0 := rfl
  have g1 : (ByteArray.mk ⟨[b0, b1, b2, b3]⟩)[1] = b1 := rfl
  have g2 : (ByteArray.mk ⟨[b0, b1, b2, b3]⟩)[2] = b2 := rfl
  have g3 : (ByteArray.mk ⟨[b0, b1, b2, b3]⟩)[3] = b3 := rfl
  go_enter Tryz.func25, Tryz.ntmps25
  go_wp2
  go_loopw [3, 4] (fun n i wr => wr = w ∧ ((i = .int .i64 0 ∧ n = .int .i64 0) ∨ (i = .int .i64 1 ∧ n = .int .i64 b0.toNat) ∨ (i = .int .i64 2 ∧ n = .int .i64 (b0.toNat * 256 + b1.toNat : Nat)) ∨ (i = .int .i64 3 ∧ n = .int .i64 ((b0.toNat * 256 + b1.toNat) * 256 + b2.toNat : Nat)) ∨ (i = .int .i64 4 ∧ n = .int .i64 (num4 b0 b1 b2 b3)))) (fun n i _ => 4 - (intOf i).toNat)
  case atStart => exact ⟨rfl, .inl ⟨rfl, rfl⟩⟩
  case round =>
    obtain ⟨rfl, hrel⟩ := hrel
    rcases hrel with ⟨rfl, rfl⟩ | ⟨rfl, rfl⟩ | ⟨rfl, rfl⟩ | ⟨rfl, rfl⟩ | ⟨rfl, rfl⟩
    · go_wp2
      go_roundw
      case rel => exact ⟨trivial, .inr (.inl ⟨by go_num, congrArg _ (by first | rfl | omega | (simp only [num4]; omega) | (unfold wrap64; omega))⟩)⟩
      case measure => simp [intOf]
    · go_wp2
      go_roundw
      case rel => exact ⟨trivial, .inr (.inr (.inl ⟨by go_num, congrArg _ (by first | rfl | omega | (simp only [num4]; omega) | (unfold wrap64; omega))⟩))⟩
      case measure => simp [intOf]
    · go_wp2
      go_roundw
      case rel => exact ⟨trivial, .inr (.inr (.inr (.inl ⟨by go_num, congrArg _ (by first | rfl | omega | (simp only [num4]; omega) | (unfold wrap64; omega))⟩)))⟩
      case measure => simp [intOf]
    · go_wp2
      go_roundw
      case rel => exact ⟨trivial, .inr (.inr (.inr (.inr ⟨by go_num, congrArg _ (by first | rfl | omega | (simp only [num4]; omega) | (unfold wrap64; omega))⟩)))⟩
      case measure => simp [intOf]
    · go_wp2
      go_ret
      exact ⟨rfl, rfl⟩
theorem number_below (b0 b1 b2 b3 : UInt8) (w : World) : Calls Tryz.prog 24 #[.string ⟨⟨[b0, b1, b2, b3]⟩⟩] w fun e w' => e = .returned (.int .i64 (num4 b0 b1 b2 b3)) ∧ Below w.heap.size w w' :=
  (number_any b0 b1 b2 b3 w).mono fun _ _ ⟨h, q, hq⟩ => ⟨h, hq ▸ ⟨rfl, rfl, rfl, Nat.le_refl _, fun _ _ => rfl⟩⟩
theorem small_below (b0 b1 b2 b3 : UInt8) (w : World) : Calls Tryz.prog 25 #[.string ⟨⟨[b0, b1, b2, b3]⟩⟩] w fun e w' => e = .returned (.int .i64 (num4 b0 b1 b2 b3)) ∧ Below w.heap.size w w' :=
  (small_any b0 b1 b2 b3 w).mono fun _ _ ⟨h, hq⟩ => ⟨h, hq ▸ Below.refl _ _⟩
end Go.Proofs.YtoefpcepplgkeaaGreat
end
