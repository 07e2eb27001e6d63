/- The reference's Cut and Heal. (Printed by wip/gen_ref.py.). The reference's others, Set, Stop and Tick. (Printed by wip/gen_reft.py.). -/
import Derived.Test.YthlbmcfliejdiaaGreatGk
import Derived.Test.YthlbmcfliejdiaaGreatGf
import Derived.Test.YthlbmcfliejdiaaGreatGj
import Derived.Deep.DeepCutAuto
import Derived.Deep.CutBlock
section
set_option linter.unusedVariables false
set_option linter.unusedSimpArgs false
namespace Go.Proofs.YthlbmcfliejdiaaGreat
open Go.RowKit

theorem Own.put14 {α : Type} [Enc α] {w : World} {B b : Nat} {e : TypeId} {v : Value} {xs : List α} (h : Own w B e v xs) (hb : b < B) {a0 a1 a2 a3 a4 a5 a6 a7 a8 a9 a10 a11 a12 a13 : Value} : Own (put14 w b a0 a1 a2 a3 a4 a5 a6 a7 a8 a9 a10 a11 a12 a13) B e v xs := by
  unfold Go.Proofs.YthlbmcfliejdiaaGreat.put14
  repeat (refine Own.far ?_ (by exact hb) _)
  exact h
theorem made_start {w w0 : World} {c : Array Value} (h : w0 = (w.alloc (.cells c 26)).alloc (.cells #[.int .i64 0, .int .i64 0, .int .i64 0, .slice none 0 0, .slice none 0 0, .slice none 0 0, .int .i64 0, .int .i64 0, .int .i64 0, .int .i64 0, .int .i64 0, .string ⟨#[]⟩, .slice none 0 0, .int .i64 0] 35)) :
    Below w.heap.size w w0 ∧ w0.heap[w.heap.size]? = some (.cells c 26 (0, 0)) ∧ w0.heap[w.heap.size + 1]? = some (.cells #[.int .i64 0, .int .i64 0, .int .i64 0, .slice none 0 0, .slice none 0 0, .slice none 0 0, .int .i64 0, .int .i64 0, .int .i64 0, .int .i64 0, .int .i64 0, .string ⟨#[]⟩, .slice none 0 0, .int .i64 0] 35 (0, 0)) ∧ w0.heap.size = w.heap.size + 2 := by
  subst h
  refine ⟨below_alloc (below_alloc (Below.refl _ _) _) _, bl_alloc (bl_new _ _) _, ?_, by simp⟩
  have h := bl_new (w.alloc (.cells c 26)) (.cells #[.int .i64 0, .int .i64 0, .int .i64 0, .slice none 0 0, .slice none 0 0, .slice none 0 0, .int .i64 0, .int .i64 0, .int .i64 0, .int .i64 0, .int .i64 0, .string ⟨#[]⟩, .slice none 0 0, .int .i64 0] 35)
  rw [show (w.alloc (.cells c 26)).heap.size = w.heap.size + 1 from (by simp)] at h
  exact h
attribute [local go_sem high] eqATm eqALt eqAAc eqALk
end Go.Proofs.YthlbmcfliejdiaaGreat
end

section
set_option linter.unusedVariables false
set_option linter.unusedSimpArgs false
namespace Go.Proofs.YthlbmcfliejdiaaGreat
open Go.RowKit

set_option maxHeartbeats 4000000 in
set_option maxRecDepth 100000 in
theorem Rothers_any (A : Option Addr) (c : Nat) (xs : List Tm) (nd tg : Int) (w : World) (hR : Rd w A xs) (hl : xs.length ≤ 10000000) :
    Calls Tryz.prog 113 #[.slice A xs.length c, .int .i64 nd, .int .i64 tg] w fun e w' => ∃ u, e = .returned u ∧ Own w' w.heap.size 86 u (othersF nd tg xs) ∧ Below w.heap.size w w' := by
  have HR := Lib.hid hR
  clear hR
  go_enter Tryz.func113, Tryz.ntmps113
  go_wp2
  go_loopw [7, 8] (fun u i wr => ∃ k : Nat, k ≤ xs.length ∧ i = .int .i64 k ∧ Hid (Own wr w.heap.size 86 u (othersF nd tg (xs.take k))) ∧ Hid (Below w.heap.size w wr)) (fun _ i _ => xs.length - (intOf i).toNat)
  case atStart => exact ⟨0, Nat.zero_le _, rfl, (Own.nil _ _ _ : Own w w.heap.size 86 (.slice none 0 0) ([] : List Tm)), Below.refl _ _⟩
  case round =>
    obtain ⟨k, hk, rfl, hO, hB⟩ := hrel
    by_cases hlk : k < xs.length
    · obtain ⟨bb, off, d, rfl, hx, e0, e1, e2⟩ := (HR.out.below hB.out).tm k hlk
      have hbt : bb < wr.heap.size := World.block_lt_of_cell? wr _ e0
      have hts := Lib.hid (take_snoc' hx)
      have hlen : Hid ((othersF nd tg (xs.take k)).length ≤ k) := Nat.le_trans (List.length_filter_le _ _) (List.length_take_le _ _)
      cases q1 : (d.node != nd)
      · cases q2 : (d.tag != tg)
        · have hlc : Hid (othersF nd tg (xs.take (k + 1)) = othersF nd tg (xs.take k)) := by
            show _ = _
            rw [hts.out, othersF, List.filter_append]
            simp [isTm, bne_eq_false_iff_eq.1 q1, bne_eq_false_iff_eq.1 q2, othersF]
          go_wp2
          go_roundw
          case rel => exact ⟨k + 1, by omega, by go_num, by show Own _ _ _ _ _; rw [hlc.out]; exact hO.out, hB.out⟩
          case measure => simp [intOf]; omega
        · have hlc : Hid (othersF nd tg (xs.take (k + 1)) = othersF nd tg (xs.take k) ++ [d]) := by
            show _ = _
            rw [hts.out, othersF, List.filter_append]
            simp [isTm, bne_iff_ne.1 q2, othersF]
          go_upto_region 6 with fail
          go_wp2_with (at_builtin; refine hid_stop ?_)
          change wpList _ _ _ _ _ (wr.alloc _)
          refine wpList_app _ w.heap.size rfl (.tmp 31) (.tmp 36) 24 86 _ 24 rfl Tryz.underlying24 infoT rfl (by decide) (by decide) u7 (othersF nd tg (xs.take k)) [d] (some ⟨wr.heap.size, 0, none⟩) 1 rfl rfl (hO.out.alloc _) ?hR ?hB ?hL ?_
          case hR => exact Rd.new wr 86 d #[.int .i64 d.t, .int .i64 d.node, .int .i64 d.tag] rfl
          case hB => have h := (hB.out).size; simp; omega
          case hL => have h := hlen.out; simp; omega
          intro v1 w8 ho hg hat
          have hgq : wr.grownBy w8 (u7 : Value).ownBlock := grown_of_alloc hg
          have hF1 : Hid (Own w8 w.heap.size 86 v1 (othersF nd tg (xs.take (k + 1)))) := by
            show Own _ _ _ _ _
            rw [hlc.out]
            exact ho
          have hF2 : Hid (Below w.heap.size w w8) := hB.out.grown hgq hB.out.size (fun k hk => (hO.out.lt k hk).1)
          clear ho hg hgq hat
          go_wp2
          go_roundw
          case rel => exact ⟨k + 1, by omega, by go_num, hF1.out, hF2.out⟩
          case measure => simp [intOf]; omega
      · have hlc : Hid (othersF nd tg (xs.take (k + 1)) = othersF nd tg (xs.take k) ++ [d]) := by
          show _ = _
          rw [hts.out, othersF, List.filter_append]
          simp [isTm, bne_iff_ne.1 q1, othersF]
        go_upto_region 6 with fail
        go_wp2_with (at_builtin; refine hid_stop ?_)
        change wpList _ _ _ _ _ (wr.alloc _)
        refine wpList_app _ w.heap.size rfl (.tmp 31) (.tmp 36) 24 86 _ 24 rfl Tryz.underlying24 infoT rfl (by decide) (by decide) u7 (othersF nd tg (xs.take k)) [d] (some ⟨wr.heap.size, 0, none⟩) 1 rfl rfl (hO.out.alloc _) ?hR ?hB ?hL ?_
        case hR => exact Rd.new wr 86 d #[.int .i64 d.t, .int .i64 d.node, .int .i64 d.tag] rfl
        case hB => have h := (hB.out).size; simp; omega
        case hL => have h := hlen.out; simp; omega
        intro v1 w8 ho hg hat
        have hgq : wr.grownBy w8 (u7 : Value).ownBlock := grown_of_alloc hg
        have hF1 : Hid (Own w8 w.heap.size 86 v1 (othersF nd tg (xs.take (k + 1)))) := by
          show Own _ _ _ _ _
          rw [hlc.out]
          exact ho
        have hF2 : Hid (Below w.heap.size w w8) := hB.out.grown hgq hB.out.size (fun k hk => (hO.out.lt k hk).1)
        clear ho hg hgq hat
        go_wp2
        go_roundw
        case rel => exact ⟨k + 1, by omega, by go_num, hF1.out, hF2.out⟩
        case measure => simp [intOf]; omega
    · have hkl : k = xs.length := by omega
      have HKL := Lib.hid hkl
      clear hkl
      go_wp2
      go_ret
      refine ⟨_, rfl, ?_, hB.out⟩
      have h := hO.out
      rw [HKL.out, List.take_length] at h
      exact h
/-- The rows are different ones. -/
def neR (u v : Value) : Prop := u.ownBlock = none ∨ u.ownBlock ≠ v.ownBlock
theorem ne_flip {u v : Value} (h : neR u v) : neR v u := by
  unfold neR at *
  cases hv : v.ownBlock with
  | none => exact .inl rfl
  | some g =>
    right
    rcases h with h | h
    · rw [h]; intro h2; cases h2
    · rw [hv] at h; exact fun h2 => h h2.symm
theorem neR_new {u v v1 : Value} {w : World} {o : Obj} (h : neR u v) (hat : v1.ownBlock = u.ownBlock ∨ v1.ownBlock = some (w.alloc o).heap.size) (hl : ∀ g, v.ownBlock = some g → g < w.heap.size) : neR v1 v := by
  unfold neR at *
  rcases hat with e | e
  · rw [e]; exact h
  · rw [e]
    right
    intro h2
    have := hl _ h2.symm
    simp at this
    omega
def fireF (now : Int) (ts : List Tm) : List Tm := ts.filter (fun t => decide (t.t = now + 1))
def stayF (now : Int) (ts : List Tm) : List Tm := ts.filter (fun t => decide (t.t ≠ now + 1))
theorem filt_len (ts : List Tm) (now : Int) : (fireF now ts).length ≤ ts.length ∧ (stayF now ts).length ≤ ts.length := ⟨List.length_filter_le _ _, List.length_filter_le _ _⟩
end Go.Proofs.YthlbmcfliejdiaaGreat
end
