/- What the reference makes, row by row. (Printed by wip/gen_refm.py.). The reference's Cut and Heal, row by row. (Printed by wip/gen_refm.py.). The reference's Stop, Set and Tick, row by row. (Printed by wip/gen_refm.py.). The reference's Lose and Deliver, row by row. (Printed by wip/gen_refm.py.). The reference's Send, Double and Delay, row by row. (Printed by wip/gen_refm.py.). -/
import Derived.Test.YthlbmcfliejdiaaGreatGm
import Derived.Test.YthlbmcfliejdiaaGreatGl
import Derived.Deep.DeepCutAuto
import Derived.Deep.CutBlock
section
set_option linter.unusedVariables false
set_option linter.unusedSimpArgs false
namespace Go.Proofs.YthlbmcfliejdiaaGreat
open Go.RowKit

/-- A row of the result: the argument's own, handed through, or a row of the call's own. -/
def RowA {α : Type} [Enc α] (B : Nat) (w' : World) (e : TypeId) (u u' : Value) (xs ys : List α) : Prop := (u' = u ∧ ys = xs) ∨ ∃ B', B ≤ B' ∧ Own w' B' e u' ys
/-- What is made, row by row. -/
def MadeR (B : Nat) (w' : World) (x : Nt) (aW : Option Addr) (bW : Nat) (aC : Option Addr) (bC : Nat) (aT : Option Addr) (bT : Nat) (v : Value) (r : Rs) : Prop :=
  ∃ AW cW AC cC AT cT AF cF, v = .agg #[.int .i64 r.x.nodes, .int .i64 r.x.now, .int .i64 r.x.next, .slice AW r.x.way.length cW, .slice AC r.x.cuts.length cC, .slice AT r.x.timers.length cT, .int .i64 r.id, .int .i64 r.l.id, .int .i64 r.l.fr, .int .i64 r.l.to, .int .i64 r.l.rd, .string r.l.data, .slice AF r.ts.length cF, .int .i64 r.e] ∧ RowA B w' 33 (.slice aW x.way.length bW) (.slice AW r.x.way.length cW) x.way r.x.way ∧ RowA B w' 96 (.slice aC x.cuts.length bC) (.slice AC r.x.cuts.length cC) x.cuts r.x.cuts ∧
    RowA B w' 86 (.slice aT x.timers.length bT) (.slice AT r.x.timers.length cT) x.timers r.x.timers ∧ ∃ B', B ≤ B' ∧ Own w' B' 86 (.slice AF r.ts.length cF) r.ts
theorem MadeR_err {B : Nat} {w' : World} {x : Nt} {aW : Option Addr} {bW : Nat} {aC : Option Addr} {bC : Nat} {aT : Option Addr} {bT : Nat} (k : Int) :
    MadeR B w' x aW bW aC bC aT bT (.agg #[.int .i64 0, .int .i64 0, .int .i64 0, .slice none 0 0, .slice none 0 0, .slice none 0 0, .int .i64 0, .int .i64 0, .int .i64 0, .int .i64 0, .int .i64 0, .string ⟨#[]⟩, .slice none 0 0, .int .i64 k]) (errR k) :=
  ⟨none, 0, none, 0, none, 0, none, 0, rfl, .inr ⟨_, Nat.le_refl _, Own.nil _ _ _⟩, .inr ⟨_, Nat.le_refl _, Own.nil _ _ _⟩, .inr ⟨_, Nat.le_refl _, Own.nil _ _ _⟩, ⟨_, Nat.le_refl _, Own.nil _ _ _⟩⟩
/-- A row's room, its reading and its owning elsewhere. -/
theorem RowA.cap {α : Type} [Enc α] {B : Nat} {w' : World} {e : TypeId} {A A' : Option Addr} {c c' : Nat} {xs ys : List α} (h : RowA B w' e (.slice A xs.length c) (.slice A' ys.length c') xs ys) (hc : xs.length ≤ c) : ys.length ≤ c' := by
  rcases h with ⟨h1, h2⟩ | ⟨B', -, ho⟩
  · injection h1 with h3 h4 h5
    rw [h5, h2]; exact hc
  · obtain ⟨_, _, e, h, -⟩ := ho.slice
    cases e
    exact h
theorem RowA.rd {α : Type} [Enc α] {B : Nat} {w' W : World} {e : TypeId} {A A' : Option Addr} {c c' : Nat} {xs ys : List α} (h : RowA B w' e (.slice A xs.length c) (.slice A' ys.length c') xs ys) (hA : Abv B w' W) (hR : Rd W A xs) : Rd W A' ys := by
  rcases h with ⟨h1, h2⟩ | ⟨B', hB, ho⟩
  · injection h1 with h3 h4 h5
    rw [h3, h2]; exact hR
  · exact Own.rd (Own.abv ho hB hA)
theorem RowA.own {α : Type} [Enc α] {B B0 : Nat} {w' W : World} {e : TypeId} {A A' : Option Addr} {c c' : Nat} {xs ys : List α} (h : RowA B w' e (.slice A xs.length c) (.slice A' ys.length c') xs ys) (hA : Abv B w' W) (hB0 : B0 ≤ B) (hO : Own W B0 e (.slice A xs.length c) xs) : Own W B0 e (.slice A' ys.length c') ys := by
  rcases h with ⟨h1, h2⟩ | ⟨B', hB, ho⟩
  · rw [h1, h2]; exact hO
  · exact (Own.abv ho hB hA).weaken (Nat.le_trans hB0 hB)
/-- .. moved to a later world that keeps the blocks from B on. -/
theorem RowA.abv {α : Type} [Enc α] {B B2 : Nat} {w' W : World} {e : TypeId} {u u' : Value} {xs ys : List α} (h : RowA B w' e u u' xs ys) (hB : B2 ≤ B) (hA : Abv B w' W) : RowA B2 W e u u' xs ys := by
  rcases h with h | ⟨B', hB', ho⟩
  · exact .inl h
  · exact .inr ⟨B', Nat.le_trans hB hB', Own.abv ho hB' hA⟩
theorem MadeR.abv {B B2 : Nat} {w' W : World} {x : Nt} {aW : Option Addr} {bW : Nat} {aC : Option Addr} {bC : Nat} {aT : Option Addr} {bT : Nat} {v : Value} {r : Rs} (h : MadeR B w' x aW bW aC bC aT bT v r) (hB : B2 ≤ B) (hA : Abv B w' W) : MadeR B2 W x aW bW aC bC aT bT v r := by
  obtain ⟨AW, cW, AC, cC, AT, cT, AF, cF, e, h1, h2, h3, B', hB', h4⟩ := h
  exact ⟨AW, cW, AC, cC, AT, cT, AF, cF, e, h1.abv hB hA, h2.abv hB hA, h3.abv hB hA, B', Nat.le_trans hB hB', Own.abv h4 hB' hA⟩
end Go.Proofs.YthlbmcfliejdiaaGreat
end

section
set_option linter.unusedVariables false
set_option linter.unusedSimpArgs false
namespace Go.Proofs.YthlbmcfliejdiaaGreat
open Go.RowKit

set_option maxHeartbeats 4000000 in
set_option maxRecDepth 100000 in
theorem RCut_rows (x : Nt) (a b : Int) (w : World) (AW AC AT : Option Addr) (cW cC cT : Nat) (hW : Rd w AW x.way) (hC : Rd w AC x.cuts) (hT : Rd w AT x.timers) (hlc : x.cuts.length ≤ 10000000) (hlw : x.way.length ≤ 10000000) (hlt : x.timers.length ≤ 10000000) :
    Calls Tryz.prog 89 #[.agg #[.int .i64 x.nodes, .int .i64 x.now, .int .i64 x.next, .slice AW x.way.length cW, .slice AC x.cuts.length cC, .slice AT x.timers.length cT], .int .i64 a, .int .i64 b] w fun e w' => ∃ v, e = .returned v ∧ MadeR w.heap.size w' x AW cW AC cC AT cT v (formR x (cutM x a b)) ∧ Below w.heap.size w w' := by
  obtain ⟨w0, hw0⟩ : ∃ w0, w0 = (w.alloc (.cells #[.int .i64 x.nodes, .int .i64 x.now, .int .i64 x.next, .slice AW x.way.length cW, .slice AC x.cuts.length cC, .slice AT x.timers.length cT] 26)).alloc (.cells #[.int .i64 0, .int .i64 0, .int .i64 0, .slice none 0 0, .slice none 0 0, .slice none 0 0, .int .i64 0, .int .i64 0, .int .i64 0, .int .i64 0, .int .i64 0, .string ⟨#[]⟩, .slice none 0 0, .int .i64 0] 35) := ⟨_, rfl⟩
  obtain ⟨hb0, hz0, hm0, hs0⟩ := made_start hw0
  have HV : Hid (∀ W, Below w0.heap.size w0 W → NetV W (.agg #[.int .i64 x.nodes, .int .i64 x.now, .int .i64 x.next, .slice AW x.way.length cW, .slice AC x.cuts.length cC, .slice AT x.timers.length cT]) x) := fun W hb => ⟨AW, cW, AC, cC, AT, cT, rfl, hW.below (below_trans hb0 hb), hC.below (below_trans hb0 hb), hT.below (below_trans hb0 hb)⟩
  have his := fun (v : Value) (w : World) (hV : NetV w v x) => RIs_any x v w hV hlc hlw hlt
  have HB0 := Lib.hid hb0
  have HZ0 := Lib.hid hz0
  have HM0 := Lib.hid hm0
  have HS0 := Lib.hid hs0
  have HW0 := Lib.hid hw0
  have HC := Lib.hid (hC.below hb0)
  have HT := Lib.hid (hT.below hb0)
  have HWW := Lib.hid hW
  have HTW := Lib.hid hT
  have HCW := Lib.hid hC
  clear hb0 hz0 hm0 hs0 hw0 hW hC hT
  cases hc : checkB x
  · rw [hc] at his
    have HIS := Lib.hid his
    have HN : Hid (formR x (cutM x a b) = errR 2) := if_pos hc
    clear his hc
    go_enter Tryz.func89, Tryz.ntmps89
    go_wp2_with fail
    rw [← HW0.out]
    clear HW0
    refine calls_below (HIS.out _ _ (HV.out _ (Below.refl _ _))) ?_
    intro w1 hb1
    have hz1 := bl_below HZ0.out hb1
    obtain ⟨⟨k0, k1, k2, k3, k4, k5⟩, -⟩ := blc6 hz1
    have hlz := bl_lt hz1
    go_wp2_with fail
    refine calls_below (Rfailed_any 2 _) ?_
    intro w9 hb9
    have hb9' := below_trans hb1 hb9
    have hm9 := bl_below HM0.out hb9'
    have hl9 := bl_lt hm9
    obtain ⟨⟨d0, d1, d2, d3, d4, d5, d6, d7, d8, d9, d10, d11, d12, d13⟩, fz⟩ := blc14 hm9
    go_wp2
    exact ret_c Tryz.results89 (w.heap.size + 1) 35 _ _ rfl (put14_all hm9) Tryz.underlying35 rfl sizeMade rfl ⟨_, rfl, by rw [HN.out]; exact MadeR_err 2, put14_below (below_trans HB0.out hb9') (by omega)⟩
  rw [hc] at his
  have HIS := Lib.hid his
  have HF : Hid (formR x (cutM x a b) = cutM x a b) := if_neg (by rw [hc]; decide)
  have HOK : Hid (Ok x) := (ok_iff x).1 hc
  clear his hc
  obtain ⟨bA, hA⟩ : ∃ b, isNodeB x.nodes a = b := ⟨_, rfl⟩
  obtain ⟨bB, hB⟩ : ∃ b', isNodeB x.nodes b = b' := ⟨_, rfl⟩
  obtain ⟨bE, hE⟩ : ∃ b', (a == b) = b' := ⟨_, rfl⟩
  have htw : twoB x.nodes a b = (bA && bB && !bE) := by unfold twoB; rw [hA, hB, ← hE]; congr 1; rw [Bool.eq_iff_iff]; simp
  have hnA : Hid (∀ w, Calls Tryz.prog 41 #[.agg #[.int .i64 x.nodes, .int .i64 x.now, .int .i64 x.next, .slice AW x.way.length cW, .slice AC x.cuts.length cC, .slice AT x.timers.length cT], .int .i64 a] w fun e w' => e = .returned (.bool bA) ∧ Below w.heap.size w w') := fun w => by have h := RisNode_any x.nodes x.now x.next a AW AC AT x.way.length cW x.cuts.length cC x.timers.length cT w; rwa [hA] at h
  have hnB : Hid (∀ w, Calls Tryz.prog 41 #[.agg #[.int .i64 x.nodes, .int .i64 x.now, .int .i64 x.next, .slice AW x.way.length cW, .slice AC x.cuts.length cC, .slice AT x.timers.length cT], .int .i64 b] w fun e w' => e = .returned (.bool bB) ∧ Below w.heap.size w w') := fun w => by have h := RisNode_any x.nodes x.now x.next b AW AC AT x.way.length cW x.cuts.length cC x.timers.length cT w; rwa [hB] at h
  have HTW := Lib.hid htw
  clear htw hA hB
  cases bA
  · have HN : Hid (formR x (cutM x a b) = errR 1) := HF.out.trans (if_pos (HTW.out.trans (by first | rfl | (cases bB <;> rfl))))
    clear hE
    go_enter Tryz.func89, Tryz.ntmps89
    go_wp2_with fail
    rw [← HW0.out]
    clear HW0
    refine calls_below (HIS.out _ _ (HV.out _ (Below.refl _ _))) ?_
    intro w1 hb1
    have hz1 := bl_below HZ0.out hb1
    obtain ⟨⟨k0, k1, k2, k3, k4, k5⟩, -⟩ := blc6 hz1
    have hlz := bl_lt hz1
    go_wp2_with fail
    refine calls_below (hnA.out _) ?_
    intro w2 hb2
    replace hb2 := below_trans hb1 hb2
    clear hz1 k0 k1 k2 k3 k4 k5 hlz
    have hz1 := bl_below HZ0.out hb2
    obtain ⟨⟨k0, k1, k2, k3, k4, k5⟩, -⟩ := blc6 hz1
    have hlz := bl_lt hz1
    go_wp2_with fail
    refine calls_below (Rfailed_any 1 _) ?_
    intro w9 hb9
    have hb9' := below_trans hb2 hb9
    have hm9 := bl_below HM0.out hb9'
    have hl9 := bl_lt hm9
    obtain ⟨⟨d0, d1, d2, d3, d4, d5, d6, d7, d8, d9, d10, d11, d12, d13⟩, fz⟩ := blc14 hm9
    go_wp2
    exact ret_c Tryz.results89 (w.heap.size + 1) 35 _ _ rfl (put14_all hm9) Tryz.underlying35 rfl sizeMade rfl ⟨_, rfl, by rw [HN.out]; exact MadeR_err 1, put14_below (below_trans HB0.out hb9') (by omega)⟩
  cases bB
  · have HN : Hid (formR x (cutM x a b) = errR 1) := HF.out.trans (if_pos (HTW.out.trans (by first | rfl | (cases bB <;> rfl))))
    clear hE
    go_enter Tryz.func89, Tryz.ntmps89
    go_wp2_with fail
    rw [← HW0.out]
    clear HW0
    refine calls_below (HIS.out _ _ (HV.out _ (Below.refl _ _))) ?_
    intro w1 hb1
    have hz1 := bl_below HZ0.out hb1
    obtain ⟨⟨k0, k1, k2, k3, k4, k5⟩, -⟩ := blc6 hz1
    have hlz := bl_lt hz1
    go_wp2_with fail
    refine calls_below (hnA.out _) ?_
    intro w2 hb2
    replace hb2 := below_trans hb1 hb2
    clear hz1 k0 k1 k2 k3 k4 k5 hlz
    have hz1 := bl_below HZ0.out hb2
    obtain ⟨⟨k0, k1, k2, k3, k4, k5⟩, -⟩ := blc6 hz1
    have hlz := bl_lt hz1
    go_wp2_with fail
    refine calls_below (hnB.out _) ?_
    intro w3 hb3
    replace hb3 := below_trans hb2 hb3
    clear hz1 k0 k1 k2 k3 k4 k5 hlz
    have hz1 := bl_below HZ0.out hb3
    obtain ⟨⟨k0, k1, k2, k3, k4, k5⟩, -⟩ := blc6 hz1
    have hlz := bl_lt hz1
    go_wp2_with fail
    refine calls_below (Rfailed_any 1 _) ?_
    intro w9 hb9
    have hb9' := below_trans hb3 hb9
    have hm9 := bl_below HM0.out hb9'
    have hl9 := bl_lt hm9
    obtain ⟨⟨d0, d1, d2, d3, d4, d5, d6, d7, d8, d9, d10, d11, d12, d13⟩, fz⟩ := blc14 hm9
    go_wp2
    exact ret_c Tryz.results89 (w.heap.size + 1) 35 _ _ rfl (put14_all hm9) Tryz.underlying35 rfl sizeMade rfl ⟨_, rfl, by rw [HN.out]; exact MadeR_err 1, put14_below (below_trans HB0.out hb9') (by omega)⟩
  cases bE
  rotate_left 1
  · have HN : Hid (formR x (cutM x a b) = errR 1) := HF.out.trans (if_pos (HTW.out.trans (by first | rfl | (cases bB <;> rfl))))
    go_enter Tryz.func89, Tryz.ntmps89
    go_wp2_with fail
    rw [← HW0.out]
    clear HW0
    refine calls_below (HIS.out _ _ (HV.out _ (Below.refl _ _))) ?_
    intro w1 hb1
    have hz1 := bl_below HZ0.out hb1
    obtain ⟨⟨k0, k1, k2, k3, k4, k5⟩, -⟩ := blc6 hz1
    have hlz := bl_lt hz1
    go_wp2_with fail
    refine calls_below (hnA.out _) ?_
    intro w2 hb2
    replace hb2 := below_trans hb1 hb2
    clear hz1 k0 k1 k2 k3 k4 k5 hlz
    have hz1 := bl_below HZ0.out hb2
    obtain ⟨⟨k0, k1, k2, k3, k4, k5⟩, -⟩ := blc6 hz1
    have hlz := bl_lt hz1
    go_wp2_with fail
    refine calls_below (hnB.out _) ?_
    intro w3 hb3
    replace hb3 := below_trans hb2 hb3
    clear hz1 k0 k1 k2 k3 k4 k5 hlz
    have hz1 := bl_below HZ0.out hb3
    obtain ⟨⟨k0, k1, k2, k3, k4, k5⟩, -⟩ := blc6 hz1
    have hlz := bl_lt hz1
    go_wp2_with fail
    refine calls_below (Rfailed_any 1 _) ?_
    intro w9 hb9
    have hb9' := below_trans hb3 hb9
    have hm9 := bl_below HM0.out hb9'
    have hl9 := bl_lt hm9
    obtain ⟨⟨d0, d1, d2, d3, d4, d5, d6, d7, d8, d9, d10, d11, d12, d13⟩, fz⟩ := blc14 hm9
    go_wp2
    exact ret_c Tryz.results89 (w.heap.size + 1) 35 _ _ rfl (put14_all hm9) Tryz.underlying35 rfl sizeMade rfl ⟨_, rfl, by rw [HN.out]; exact MadeR_err 1, put14_below (below_trans HB0.out hb9') (by omega)⟩
  have HTT : Hid (twoB x.nodes a b = true) := HTW.out.trans rfl
  clear HTW
  have hcut := fun (v : Value) (w : World) (hV : NetV w v x) => Rcut_any x a b v w hV hlc
  cases hcb : cutB x a b
  rotate_left 1
  · rw [hcb] at hcut
    have hCut := Lib.hid hcut
    have HN : Hid (formR x (cutM x a b) = errR 5) := HF.out.trans (by rw [cut_e HTT.out, if_pos (of_decide_eq_true hcb)])
    clear hcut hcb
    go_enter Tryz.func89, Tryz.ntmps89
    go_wp2_with fail
    rw [← HW0.out]
    clear HW0
    refine calls_below (HIS.out _ _ (HV.out _ (Below.refl _ _))) ?_
    intro w1 hb1
    have hz1 := bl_below HZ0.out hb1
    obtain ⟨⟨k0, k1, k2, k3, k4, k5⟩, -⟩ := blc6 hz1
    have hlz := bl_lt hz1
    go_wp2_with fail
    refine calls_below (hnA.out _) ?_
    intro w2 hb2
    replace hb2 := below_trans hb1 hb2
    clear hz1 k0 k1 k2 k3 k4 k5 hlz
    have hz1 := bl_below HZ0.out hb2
    obtain ⟨⟨k0, k1, k2, k3, k4, k5⟩, -⟩ := blc6 hz1
    have hlz := bl_lt hz1
    go_wp2_with fail
    refine calls_below (hnB.out _) ?_
    intro w3 hb3
    replace hb3 := below_trans hb2 hb3
    clear hz1 k0 k1 k2 k3 k4 k5 hlz
    have hz1 := bl_below HZ0.out hb3
    obtain ⟨⟨k0, k1, k2, k3, k4, k5⟩, -⟩ := blc6 hz1
    have hlz := bl_lt hz1
    go_wp2_with fail
    refine calls_below (hCut.out _ _ (HV.out _ hb3)) ?_
    intro w4 hb4
    replace hb4 := below_trans hb3 hb4
    clear hz1 k0 k1 k2 k3 k4 k5 hlz
    have hz1 := bl_below HZ0.out hb4
    obtain ⟨⟨k0, k1, k2, k3, k4, k5⟩, -⟩ := blc6 hz1
    have hlz := bl_lt hz1
    go_wp2_with fail
    refine calls_below (Rfailed_any 5 _) ?_
    intro w9 hb9
    have hb9' := below_trans hb4 hb9
    have hm9 := bl_below HM0.out hb9'
    have hl9 := bl_lt hm9
    obtain ⟨⟨d0, d1, d2, d3, d4, d5, d6, d7, d8, d9, d10, d11, d12, d13⟩, fz⟩ := blc14 hm9
    go_wp2
    exact ret_c Tryz.results89 (w.heap.size + 1) 35 _ _ rfl (put14_all hm9) Tryz.underlying35 rfl sizeMade rfl ⟨_, rfl, by rw [HN.out]; exact MadeR_err 5, put14_below (below_trans HB0.out hb9') (by omega)⟩
  rw [hcb] at hcut
  have hCut := Lib.hid hcut
  have HN : Hid (formR x (cutM x a b) = ⟨{ x with cuts := insS lkCmp (mkLk a b) x.cuts }, 0, zLt, [], 0⟩) := HF.out.trans (by rw [cut_e HTT.out, if_neg (of_decide_eq_false hcb)])
  obtain ⟨c, hc⟩ : ∃ c, c = mkLk a b := ⟨_, rfl⟩
  have hpair : Hid (∀ w, Calls Tryz.prog 110 #[.int .i64 a, .int .i64 b] w fun e w' => e = .returned (.agg #[.int .i64 c.a, .int .i64 c.b]) ∧ Below w.heap.size w w') := by rw [hc]; exact fun w => Rpair_any a b w
  rw [← hc] at HN
  clear hc hcut hcb
  go_enter Tryz.func89, Tryz.ntmps89
  go_wp2_with fail
  rw [← HW0.out]
  clear HW0
  refine calls_below (HIS.out _ _ (HV.out _ (Below.refl _ _))) ?_
  intro w1 hb1
  have hz1 := bl_below HZ0.out hb1
  obtain ⟨⟨k0, k1, k2, k3, k4, k5⟩, -⟩ := blc6 hz1
  have hlz := bl_lt hz1
  go_wp2_with fail
  refine calls_below (hnA.out _) ?_
  intro w2 hb2
  replace hb2 := below_trans hb1 hb2
  clear hz1 k0 k1 k2 k3 k4 k5 hlz
  have hz1 := bl_below HZ0.out hb2
  obtain ⟨⟨k0, k1, k2, k3, k4, k5⟩, -⟩ := blc6 hz1
  have hlz := bl_lt hz1
  go_wp2_with fail
  refine calls_below (hnB.out _) ?_
  intro w3 hb3
  replace hb3 := below_trans hb2 hb3
  clear hz1 k0 k1 k2 k3 k4 k5 hlz
  have hz1 := bl_below HZ0.out hb3
  obtain ⟨⟨k0, k1, k2, k3, k4, k5⟩, -⟩ := blc6 hz1
  have hlz := bl_lt hz1
  go_wp2_with fail
  refine calls_below (hCut.out _ _ (HV.out _ hb3)) ?_
  intro w4 hb4
  replace hb4 := below_trans hb3 hb4
  clear hz1 k0 k1 k2 k3 k4 k5 hlz
  have hz1 := bl_below HZ0.out hb4
  obtain ⟨⟨k0, k1, k2, k3, k4, k5⟩, -⟩ := blc6 hz1
  have hlz := bl_lt hz1
  go_wp2_with fail
  refine calls_below (hpair.out _) ?_
  intro w5 hb5
  replace hb5 := below_trans hb4 hb5
  go_wp2
  obtain ⟨w6, hw6⟩ : ∃ w6, w6 = w5.alloc (.cells #[.int .i64 c.a, .int .i64 c.b] 96) := ⟨_, rfl⟩
  have hb6 : Below w0.heap.size w0 w6 := by rw [hw6]; exact below_alloc hb5 _
  have hl6 : w6.heap[w5.heap.size]? = some (.cells #[.int .i64 c.a, .int .i64 c.b] 96 (0, 0)) := by rw [hw6]; exact bl_new _ _
  have HB6 := Lib.hid hb6
  have HL6 := Lib.hid hl6
  have HS6 := Lib.hid hb5.size
  rw [← hw6]
  clear hw6 hb6 hl6 hb1 hb2 hb3 hb4 hb5 hz1 k0 k1 k2 k3 k4 k5 hlz
  go_loopw [8, 9, 10] (fun u dn i wr => ∃ k : Nat, k ≤ x.cuts.length ∧ i = .int .i64 k ∧ dn = .bool (gtAny lkCmp c (x.cuts.take k)) ∧ Hid (Own wr w6.heap.size 96 u (outS lkCmp c (x.cuts.take k))) ∧ Hid (Below w6.heap.size w6 wr)) (fun _ _ i _ => x.cuts.length - (intOf i).toNat)
  case atStart => exact ⟨0, Nat.zero_le _, rfl, rfl, (Own.nil _ _ _ : Own w6 w6.heap.size 96 (.slice none 0 0) ([] : List Lk)), Below.refl _ _⟩
  case round =>
    obtain ⟨k, hk, rfl, rfl, hO, hB⟩ := hrel
    have hB0 := below_trans HB6.out hB.out
    have hz1 := bl_below HZ0.out hB0
    obtain ⟨⟨k0, k1, k2, k3, k4, k5⟩, -⟩ := blc6 hz1
    have hlz := bl_lt hz1
    have hl7 := bl_below HL6.out hB.out
    have c0 := bl_cell hl7 0
    have c1 := bl_cell hl7 1
    simp at c0 c1
    have hll := bl_lt hl7
    obtain ⟨dn, hdn⟩ : ∃ dn, gtAny lkCmp c (x.cuts.take k) = dn := ⟨_, rfl⟩
    have HDN := Lib.hid hdn
    rw [hdn]
    clear hdn hz1 hl7 hB0
    by_cases hlk : k < x.cuts.length
    · obtain ⟨bb, off, d, rfl, hx, e0, e1⟩ := (HC.out.below (below_trans HB6.out hB.out)).lk k hlk
      have hbt : bb < wr.heap.size := World.block_lt_of_cell? wr _ e0
      have hts := Lib.hid (take_snoc' hx)
      go_upto_region 14 with fail
      obtain ⟨w7, hw7⟩ : ∃ w7, w7 = wr.alloc (.cells #[.int .i64 d.a, .int .i64 d.b] 96) := ⟨_, rfl⟩
      have hb7 : Below wr.heap.size wr w7 := by rw [hw7]; exact below_alloc (Below.refl _ _) _
      have hO7 : Own w7 w6.heap.size 96 u8 (outS lkCmp c (x.cuts.take k)) := by rw [hw7]; exact hO.out.alloc _
      have hd7 : w7.heap[wr.heap.size]? = some (.cells #[.int .i64 d.a, .int .i64 d.b] 96 (0, 0)) := by rw [hw7]; exact bl_new _ _
      have hB7 : Below w6.heap.size w6 w7 := below_trans hB.out hb7
      have HO7 := Lib.hid hO7
      have HD7 := Lib.hid hd7
      have HB7 := Lib.hid hB7
      have HNE : Hid (∀ g, (u8 : Value).ownBlock = some g → g < wr.heap.size) := fun g h => (hO.out.lt g h).2
      have HLL : Hid ((outS lkCmp c (x.cuts.take k)).length ≤ k + 1) := by
        have h1 := outS_len lkCmp c (x.cuts.take k)
        have h2 : (x.cuts.take k).length ≤ k := List.length_take_le _ _
        show _ ≤ _
        omega
      rw [← hw7]
      have hB0 := below_trans HB6.out hB7
      clear hw7 hb7 hO7 hd7 hB hO hll c0 c1 k0 k1 k2 k3 k4 k5 hlz e0 e1 hbt
      have hl7 := bl_below HL6.out hB7
      have c0 := (bl_cell hl7 0).trans rfl
      have c1 := (bl_cell hl7 1).trans rfl
      have e0 := (bl_cell HD7.out 0).trans rfl
      have e1 := (bl_cell HD7.out 1).trans rfl
      have hll := bl_lt hl7
      have hle := bl_lt HD7.out
      have hz1 := bl_below HZ0.out hB0
      obtain ⟨⟨k0, k1, k2, k3, k4, k5⟩, -⟩ := blc6 hz1
      have hlz := bl_lt hz1
      clear hl7 hz1 hB0 hB7
      cases dn
      rotate_left 1
      · skip
        go_wp2_with (at_builtin; refine hid_stop ?_)
        change wpList _ _ _ _ _ (w7.alloc _)
        refine wpList_app _ w6.heap.size rfl (.tmp 82) (.tmp 84) 23 96 _ 16 rfl Tryz.underlying23 infoC rfl (by decide) (by decide) u8 (outS lkCmp c (x.cuts.take k)) [d] (some ⟨w7.heap.size, 0, none⟩) 1 rfl rfl (HO7.out.alloc _) ?hR ?hB ?hL ?_
        case hR => exact Rd.new w7 96 d #[.int .i64 d.a, .int .i64 d.b] rfl
        case hB => have h := HB7.out.size; simp; omega
        case hL => have h := HLL.out; simp; omega
        intro v1 w8 ho hg hat
        have hgq : w7.grownBy w8 (u8 : Value).ownBlock := grown_of_alloc hg
        have hF1 : Hid (Own w8 w6.heap.size 96 v1 (outS lkCmp c (x.cuts.take (k + 1)))) := by
          show Own _ _ _ _ _
          rw [hts.out, outS_yes lkCmp c d HDN.out]
          exact ho
        have hF2 : Hid (Below w6.heap.size w6 w8) := HB7.out.grown hgq HB7.out.size (fun k hk => (HO7.out.lt k hk).1)
        have hF3 : Hid (gtAny lkCmp c (x.cuts.take (k + 1)) = true) := by show _ = _; rw [hts.out, gtAny_snoc, HDN.out]; rfl
        clear ho hg hgq hat
        go_wp2
        go_roundw
        case rel => exact ⟨k + 1, by omega, by go_num, by rw [hF3.out], hF1.out, hF2.out⟩
        case measure => simp [intOf]; omega
      by_cases h1 : c.a < d.a
      · have d1 : decide (c.a < d.a) = true := decide_eq_true h1
        have hgt : Hid (lkCmp c d < 0) := by show _ < _; rw [lkCmp_lt]; omega
        clear h1
        go_wp2_with (at_builtin; refine hid_stop ?_)
        change wpList _ _ _ _ _ (w7.alloc _)
        refine wpList_app _ w6.heap.size rfl (.tmp 78) (.tmp 80) 23 96 _ 16 rfl Tryz.underlying23 infoC rfl (by decide) (by decide) u8 (outS lkCmp c (x.cuts.take k)) [c] (some ⟨w7.heap.size, 0, none⟩) 1 rfl rfl (HO7.out.alloc _) ?hR ?hB ?hL ?_
        case hR => exact Rd.new w7 96 c #[.int .i64 c.a, .int .i64 c.b] rfl
        case hB => have h := HB7.out.size; simp; omega
        case hL => have h := HLL.out; simp; omega
        intro v1 w8 ho hg hat
        have hgq : w7.grownBy w8 (u8 : Value).ownBlock := grown_of_alloc hg
        have HO8 := Lib.hid ho
        have HB8 : Hid (Below w6.heap.size w6 w8) := HB7.out.grown hgq HB7.out.size (fun k hk => (HO7.out.lt k hk).1)
        have hd8 := bl_grown HD7.out hgq (fun h => by have := HNE.out _ h.symm; omega)
        clear ho hg hgq hat c0 c1 e0 e1 hll hle k0 k1 k2 k3 k4 k5 hlz
        have e0 := (bl_cell hd8 0).trans rfl
        have e1 := (bl_cell hd8 1).trans rfl
        have hle := bl_lt hd8
        go_wp2_with (at_builtin; refine hid_stop ?_)
        change wpList _ _ _ _ _ (w8.alloc _)
        refine wpList_app _ w6.heap.size rfl (.tmp 82) (.tmp 84) 23 96 _ 16 rfl Tryz.underlying23 infoC rfl (by decide) (by decide) v1 (outS lkCmp c (x.cuts.take k) ++ [c]) [d] (some ⟨w8.heap.size, 0, none⟩) 1 rfl rfl (HO8.out.alloc _) ?hR ?hB ?hL ?_
        case hR => exact Rd.new w8 96 d #[.int .i64 d.a, .int .i64 d.b] rfl
        case hB => have h := HB8.out.size; simp; omega
        case hL => have h := HLL.out; simp; omega
        intro v2 w9 ho hg hat
        have hgq : w8.grownBy w9 (v1 : Value).ownBlock := grown_of_alloc hg
        have hF1 : Hid (Own w9 w6.heap.size 96 v2 (outS lkCmp c (x.cuts.take (k + 1)))) := by
          show Own _ _ _ _ _
          rw [hts.out, outS_first lkCmp c d HDN.out hgt.out]
          exact ho
        have hF2 : Hid (Below w6.heap.size w6 w9) := HB8.out.grown hgq HB8.out.size (fun k hk => (HO8.out.lt k hk).1)
        have hF3 : Hid (gtAny lkCmp c (x.cuts.take (k + 1)) = true) := by show _ = _; rw [hts.out, gtAny_snoc, HDN.out, decide_eq_true hgt.out]; rfl
        clear ho hg hgq hat
        go_wp2
        go_roundw
        case rel => exact ⟨k + 1, by omega, by go_num, by rw [hF3.out], hF1.out, hF2.out⟩
        case measure => simp [intOf]; omega
      · have d1 : decide (c.a < d.a) = false := decide_eq_false h1
        by_cases h2 : d.a = c.a
        · have d2 : (d.a == c.a) = true := beq_iff_eq.2 h2
          by_cases h3 : c.b < d.b
          · have d3 : decide (c.b < d.b) = true := decide_eq_true h3
            have hgt : Hid (lkCmp c d < 0) := by show _ < _; rw [lkCmp_lt]; omega
            clear h1 h2 h3
            go_wp2_with (at_builtin; refine hid_stop ?_)
            change wpList _ _ _ _ _ (w7.alloc _)
            refine wpList_app _ w6.heap.size rfl (.tmp 78) (.tmp 80) 23 96 _ 16 rfl Tryz.underlying23 infoC rfl (by decide) (by decide) u8 (outS lkCmp c (x.cuts.take k)) [c] (some ⟨w7.heap.size, 0, none⟩) 1 rfl rfl (HO7.out.alloc _) ?hR ?hB ?hL ?_
            case hR => exact Rd.new w7 96 c #[.int .i64 c.a, .int .i64 c.b] rfl
            case hB => have h := HB7.out.size; simp; omega
            case hL => have h := HLL.out; simp; omega
            intro v1 w8 ho hg hat
            have hgq : w7.grownBy w8 (u8 : Value).ownBlock := grown_of_alloc hg
            have HO8 := Lib.hid ho
            have HB8 : Hid (Below w6.heap.size w6 w8) := HB7.out.grown hgq HB7.out.size (fun k hk => (HO7.out.lt k hk).1)
            have hd8 := bl_grown HD7.out hgq (fun h => by have := HNE.out _ h.symm; omega)
            clear ho hg hgq hat c0 c1 e0 e1 hll hle k0 k1 k2 k3 k4 k5 hlz
            have e0 := (bl_cell hd8 0).trans rfl
            have e1 := (bl_cell hd8 1).trans rfl
            have hle := bl_lt hd8
            go_wp2_with (at_builtin; refine hid_stop ?_)
            change wpList _ _ _ _ _ (w8.alloc _)
            refine wpList_app _ w6.heap.size rfl (.tmp 82) (.tmp 84) 23 96 _ 16 rfl Tryz.underlying23 infoC rfl (by decide) (by decide) v1 (outS lkCmp c (x.cuts.take k) ++ [c]) [d] (some ⟨w8.heap.size, 0, none⟩) 1 rfl rfl (HO8.out.alloc _) ?hR ?hB ?hL ?_
            case hR => exact Rd.new w8 96 d #[.int .i64 d.a, .int .i64 d.b] rfl
            case hB => have h := HB8.out.size; simp; omega
            case hL => have h := HLL.out; simp; omega
            intro v2 w9 ho hg hat
            have hgq : w8.grownBy w9 (v1 : Value).ownBlock := grown_of_alloc hg
            have hF1 : Hid (Own w9 w6.heap.size 96 v2 (outS lkCmp c (x.cuts.take (k + 1)))) := by
              show Own _ _ _ _ _
              rw [hts.out, outS_first lkCmp c d HDN.out hgt.out]
              exact ho
            have hF2 : Hid (Below w6.heap.size w6 w9) := HB8.out.grown hgq HB8.out.size (fun k hk => (HO8.out.lt k hk).1)
            have hF3 : Hid (gtAny lkCmp c (x.cuts.take (k + 1)) = true) := by show _ = _; rw [hts.out, gtAny_snoc, HDN.out, decide_eq_true hgt.out]; rfl
            clear ho hg hgq hat
            go_wp2
            go_roundw
            case rel => exact ⟨k + 1, by omega, by go_num, by rw [hF3.out], hF1.out, hF2.out⟩
            case measure => simp [intOf]; omega
          · have d3 : decide (c.b < d.b) = false := decide_eq_false h3
            have hgt : Hid (¬ lkCmp c d < 0) := by show ¬ _; rw [lkCmp_lt]; omega
            clear h1 h2 h3
            go_wp2_with (at_builtin; refine hid_stop ?_)
            change wpList _ _ _ _ _ (w7.alloc _)
            refine wpList_app _ w6.heap.size rfl (.tmp 82) (.tmp 84) 23 96 _ 16 rfl Tryz.underlying23 infoC rfl (by decide) (by decide) u8 (outS lkCmp c (x.cuts.take k)) [d] (some ⟨w7.heap.size, 0, none⟩) 1 rfl rfl (HO7.out.alloc _) ?hR ?hB ?hL ?_
            case hR => exact Rd.new w7 96 d #[.int .i64 d.a, .int .i64 d.b] rfl
            case hB => have h := HB7.out.size; simp; omega
            case hL => have h := HLL.out; simp; omega
            intro v1 w8 ho hg hat
            have hgq : w7.grownBy w8 (u8 : Value).ownBlock := grown_of_alloc hg
            have hF1 : Hid (Own w8 w6.heap.size 96 v1 (outS lkCmp c (x.cuts.take (k + 1)))) := by
              show Own _ _ _ _ _
              rw [hts.out, outS_no lkCmp c d HDN.out (by have h := hgt.out; omega)]
              exact ho
            have hF2 : Hid (Below w6.heap.size w6 w8) := HB7.out.grown hgq HB7.out.size (fun k hk => (HO7.out.lt k hk).1)
            have hF3 : Hid (gtAny lkCmp c (x.cuts.take (k + 1)) = false) := by show _ = _; rw [hts.out, gtAny_snoc, HDN.out]; rw [decide_eq_false (by have h := hgt.out; omega)]; rfl
            clear ho hg hgq hat
            go_wp2
            go_roundw
            case rel => exact ⟨k + 1, by omega, by go_num, by rw [hF3.out], hF1.out, hF2.out⟩
            case measure => simp [intOf]; omega
        · have d2 : (d.a == c.a) = false := beq_eq_false_iff_ne.2 h2
          have hgt : Hid (¬ lkCmp c d < 0) := by show ¬ _; rw [lkCmp_lt]; omega
          clear h1 h2
          go_wp2_with (at_builtin; refine hid_stop ?_)
          change wpList _ _ _ _ _ (w7.alloc _)
          refine wpList_app _ w6.heap.size rfl (.tmp 82) (.tmp 84) 23 96 _ 16 rfl Tryz.underlying23 infoC rfl (by decide) (by decide) u8 (outS lkCmp c (x.cuts.take k)) [d] (some ⟨w7.heap.size, 0, none⟩) 1 rfl rfl (HO7.out.alloc _) ?hR ?hB ?hL ?_
          case hR => exact Rd.new w7 96 d #[.int .i64 d.a, .int .i64 d.b] rfl
          case hB => have h := HB7.out.size; simp; omega
          case hL => have h := HLL.out; simp; omega
          intro v1 w8 ho hg hat
          have hgq : w7.grownBy w8 (u8 : Value).ownBlock := grown_of_alloc hg
          have hF1 : Hid (Own w8 w6.heap.size 96 v1 (outS lkCmp c (x.cuts.take (k + 1)))) := by
            show Own _ _ _ _ _
            rw [hts.out, outS_no lkCmp c d HDN.out (by have h := hgt.out; omega)]
            exact ho
          have hF2 : Hid (Below w6.heap.size w6 w8) := HB7.out.grown hgq HB7.out.size (fun k hk => (HO7.out.lt k hk).1)
          have hF3 : Hid (gtAny lkCmp c (x.cuts.take (k + 1)) = false) := by show _ = _; rw [hts.out, gtAny_snoc, HDN.out]; rw [decide_eq_false (by have h := hgt.out; omega)]; rfl
          clear ho hg hgq hat
          go_wp2
          go_roundw
          case rel => exact ⟨k + 1, by omega, by go_num, by rw [hF3.out], hF1.out, hF2.out⟩
          case measure => simp [intOf]; omega
    · have hkl : k = x.cuts.length := by omega
      have HKL := Lib.hid hkl
      clear hkl
      have HDE : Hid (gtAny lkCmp c x.cuts = dn) := by show _ = _; rw [← HDN.out, HKL.out, List.take_length]
      have HOE : Hid (Own wr w6.heap.size 96 u8 (outS lkCmp c x.cuts)) := by
        have h := hO.out
        rw [HKL.out, List.take_length] at h
        exact h
      clear HDN HKL hO
      go_upto_region 18 with fail
      cases dn
      · go_wp2_with (at_builtin; refine hid_stop ?_)
        change wpList _ _ _ _ _ (wr.alloc _)
        refine wpList_app _ w6.heap.size rfl (.tmp 88) (.tmp 90) 23 96 _ 16 rfl Tryz.underlying23 infoC rfl (by decide) (by decide) u8 (outS lkCmp c x.cuts) [c] (some ⟨wr.heap.size, 0, none⟩) 1 rfl rfl (HOE.out.alloc _) ?hR ?hB ?hL ?_
        case hR => exact Rd.new wr 96 c #[.int .i64 c.a, .int .i64 c.b] rfl
        case hB => have h := hB.out.size; simp; omega
        case hL => have h := outS_len lkCmp c x.cuts; simp; omega
        intro v1 w8 ho hg hat
        have hgq : wr.grownBy w8 (u8 : Value).ownBlock := grown_of_alloc hg
        have hb8 : Below w6.heap.size w6 w8 := hB.out.grown hgq hB.out.size (fun k hk => (HOE.out.lt k hk).1)
        have hO8 : Own w8 w6.heap.size 96 v1 (insS lkCmp c x.cuts) := by rw [← outS_end_no lkCmp c HDE.out]; exact ho
        clear ho hg hgq hat k0 k1 k2 k3 k4 k5 hlz c0 c1 hll hB HOE
        have HB8 := Lib.hid hb8
        clear hb8
        obtain ⟨A9, c9, hu9, -, -⟩ := Own.slice (hO8)
        have HO9 := Lib.hid (hO8)
        subst hu9
        have hz9 := bl_below HZ0.out (below_trans HB6.out HB8.out)
        have hm9 := bl_below HM0.out (below_trans HB6.out HB8.out)
        have HB9 := Lib.hid (below_trans HB6.out HB8.out)
        obtain ⟨⟨k0, k1, k2, k3, k4, k5⟩, f0, f1, f2, f3, f4, f5⟩ := blc6 hz9
        obtain ⟨⟨d0, d1, d2, d3, d4, d5, d6, d7, d8, d9, d10, d11, d12, d13⟩, fz⟩ := blc14 hm9
        have hlz := bl_lt hz9
        have hlm := bl_lt hm9
        clear hz9
        go_wp2
        have hfar := bl_far hm9 (p := ⟨w.heap.size, 4, none⟩) (by simp) (.slice A9 (insS lkCmp c x.cuts).length c9)
        have hbl : Below w.heap.size w (w8.setCell ⟨w.heap.size, 4, none⟩ (.slice A9 (insS lkCmp c x.cuts).length c9)) := (below_trans HB0.out HB9.out).setCell (Nat.le_refl _) _
        have hq9 := HS0.out
        have hq8 := HB6.out.size
        exact ret_c Tryz.results89 (w.heap.size + 1) 35 _ _ rfl (put14_all hfar) Tryz.underlying35 rfl sizeMade rfl ⟨_, rfl, by
          rw [HN.out]
          exact ⟨AW, cW, A9, c9, AT, cT, none, 0, rfl, .inl ⟨rfl, rfl⟩, .inr ⟨_, (by first | omega | (show w.heap.size ≤ _; omega)), (HO9.out.far (by show w.heap.size < w6.heap.size; omega) _).put14 (by omega)⟩, .inl ⟨rfl, rfl⟩, ⟨_, Nat.le_refl _, Own.nil _ _ _⟩⟩, put14_below hbl (by omega)⟩
      · have hO8 : Own wr w6.heap.size 96 u8 (insS lkCmp c x.cuts) := by rw [← outS_end_yes lkCmp c HDE.out]; exact HOE.out
        clear k0 k1 k2 k3 k4 k5 hlz c0 c1 hll HOE
        obtain ⟨A9, c9, hu9, -, -⟩ := Own.slice (hO8)
        have HO9 := Lib.hid (hO8)
        subst hu9
        have hz9 := bl_below HZ0.out (below_trans HB6.out hB.out)
        have hm9 := bl_below HM0.out (below_trans HB6.out hB.out)
        have HB9 := Lib.hid (below_trans HB6.out hB.out)
        obtain ⟨⟨k0, k1, k2, k3, k4, k5⟩, f0, f1, f2, f3, f4, f5⟩ := blc6 hz9
        obtain ⟨⟨d0, d1, d2, d3, d4, d5, d6, d7, d8, d9, d10, d11, d12, d13⟩, fz⟩ := blc14 hm9
        have hlz := bl_lt hz9
        have hlm := bl_lt hm9
        clear hz9
        go_wp2
        have hfar := bl_far hm9 (p := ⟨w.heap.size, 4, none⟩) (by simp) (.slice A9 (insS lkCmp c x.cuts).length c9)
        have hbl : Below w.heap.size w (wr.setCell ⟨w.heap.size, 4, none⟩ (.slice A9 (insS lkCmp c x.cuts).length c9)) := (below_trans HB0.out HB9.out).setCell (Nat.le_refl _) _
        have hq9 := HS0.out
        have hq8 := HB6.out.size
        exact ret_c Tryz.results89 (w.heap.size + 1) 35 _ _ rfl (put14_all hfar) Tryz.underlying35 rfl sizeMade rfl ⟨_, rfl, by
          rw [HN.out]
          exact ⟨AW, cW, A9, c9, AT, cT, none, 0, rfl, .inl ⟨rfl, rfl⟩, .inr ⟨_, (by first | omega | (show w.heap.size ≤ _; omega)), (HO9.out.far (by show w.heap.size < w6.heap.size; omega) _).put14 (by omega)⟩, .inl ⟨rfl, rfl⟩, ⟨_, Nat.le_refl _, Own.nil _ _ _⟩⟩, put14_below hbl (by omega)⟩
attribute [local go_sem high] eqATm eqALt eqAAc eqALk
set_option maxHeartbeats 4000000 in
set_option maxRecDepth 100000 in
theorem RHeal_rows (x : Nt) (a b : Int) (w : World) (AW AC AT : Option Addr) (cW cC cT : Nat) (hW : Rd w AW x.way) (hC : Rd w AC x.cuts) (hT : Rd w AT x.timers) (hlc : x.cuts.length ≤ 10000000) (hlw : x.way.length ≤ 10000000) (hlt : x.timers.length ≤ 10000000) :
    Calls Tryz.prog 90 #[.agg #[.int .i64 x.nodes, .int .i64 x.now, .int .i64 x.next, .slice AW x.way.length cW, .slice AC x.cuts.length cC, .slice AT x.timers.length cT], .int .i64 a, .int .i64 b] w fun e w' => ∃ v, e = .returned v ∧ MadeR w.heap.size w' x AW cW AC cC AT cT v (formR x (healM x a b)) ∧ Below w.heap.size w w' := by
  obtain ⟨w0, hw0⟩ : ∃ w0, w0 = (w.alloc (.cells #[.int .i64 x.nodes, .int .i64 x.now, .int .i64 x.next, .slice AW x.way.length cW, .slice AC x.cuts.length cC, .slice AT x.timers.length cT] 26)).alloc (.cells #[.int .i64 0, .int .i64 0, .int .i64 0, .slice none 0 0, .slice none 0 0, .slice none 0 0, .int .i64 0, .int .i64 0, .int .i64 0, .int .i64 0, .int .i64 0, .string ⟨#[]⟩, .slice none 0 0, .int .i64 0] 35) := ⟨_, rfl⟩
  obtain ⟨hb0, hz0, hm0, hs0⟩ := made_start hw0
  have HV : Hid (∀ W, Below w0.heap.size w0 W → NetV W (.agg #[.int .i64 x.nodes, .int .i64 x.now, .int .i64 x.next, .slice AW x.way.length cW, .slice AC x.cuts.length cC, .slice AT x.timers.length cT]) x) := fun W hb => ⟨AW, cW, AC, cC, AT, cT, rfl, hW.below (below_trans hb0 hb), hC.below (below_trans hb0 hb), hT.below (below_trans hb0 hb)⟩
  have his := fun (v : Value) (w : World) (hV : NetV w v x) => RIs_any x v w hV hlc hlw hlt
  have HB0 := Lib.hid hb0
  have HZ0 := Lib.hid hz0
  have HM0 := Lib.hid hm0
  have HS0 := Lib.hid hs0
  have HW0 := Lib.hid hw0
  have HC := Lib.hid (hC.below hb0)
  have HT := Lib.hid (hT.below hb0)
  have HWW := Lib.hid hW
  have HTW := Lib.hid hT
  have HCW := Lib.hid hC
  clear hb0 hz0 hm0 hs0 hw0 hW hC hT
  cases hc : checkB x
  · rw [hc] at his
    have HIS := Lib.hid his
    have HN : Hid (formR x (healM x a b) = errR 2) := if_pos hc
    clear his hc
    go_enter Tryz.func90, Tryz.ntmps90
    go_wp2_with fail
    rw [← HW0.out]
    clear HW0
    refine calls_below (HIS.out _ _ (HV.out _ (Below.refl _ _))) ?_
    intro w1 hb1
    have hz1 := bl_below HZ0.out hb1
    obtain ⟨⟨k0, k1, k2, k3, k4, k5⟩, -⟩ := blc6 hz1
    have hlz := bl_lt hz1
    go_wp2_with fail
    refine calls_below (Rfailed_any 2 _) ?_
    intro w9 hb9
    have hb9' := below_trans hb1 hb9
    have hm9 := bl_below HM0.out hb9'
    have hl9 := bl_lt hm9
    obtain ⟨⟨d0, d1, d2, d3, d4, d5, d6, d7, d8, d9, d10, d11, d12, d13⟩, fz⟩ := blc14 hm9
    go_wp2
    exact ret_c Tryz.results90 (w.heap.size + 1) 35 _ _ rfl (put14_all hm9) Tryz.underlying35 rfl sizeMade rfl ⟨_, rfl, by rw [HN.out]; exact MadeR_err 2, put14_below (below_trans HB0.out hb9') (by omega)⟩
  rw [hc] at his
  have HIS := Lib.hid his
  have HF : Hid (formR x (healM x a b) = healM x a b) := if_neg (by rw [hc]; decide)
  have HOK : Hid (Ok x) := (ok_iff x).1 hc
  clear his hc
  obtain ⟨bA, hA⟩ : ∃ b, isNodeB x.nodes a = b := ⟨_, rfl⟩
  obtain ⟨bB, hB⟩ : ∃ b', isNodeB x.nodes b = b' := ⟨_, rfl⟩
  obtain ⟨bE, hE⟩ : ∃ b', (a == b) = b' := ⟨_, rfl⟩
  have htw : twoB x.nodes a b = (bA && bB && !bE) := by unfold twoB; rw [hA, hB, ← hE]; congr 1; rw [Bool.eq_iff_iff]; simp
  have hnA : Hid (∀ w, Calls Tryz.prog 41 #[.agg #[.int .i64 x.nodes, .int .i64 x.now, .int .i64 x.next, .slice AW x.way.length cW, .slice AC x.cuts.length cC, .slice AT x.timers.length cT], .int .i64 a] w fun e w' => e = .returned (.bool bA) ∧ Below w.heap.size w w') := fun w => by have h := RisNode_any x.nodes x.now x.next a AW AC AT x.way.length cW x.cuts.length cC x.timers.length cT w; rwa [hA] at h
  have hnB : Hid (∀ w, Calls Tryz.prog 41 #[.agg #[.int .i64 x.nodes, .int .i64 x.now, .int .i64 x.next, .slice AW x.way.length cW, .slice AC x.cuts.length cC, .slice AT x.timers.length cT], .int .i64 b] w fun e w' => e = .returned (.bool bB) ∧ Below w.heap.size w w') := fun w => by have h := RisNode_any x.nodes x.now x.next b AW AC AT x.way.length cW x.cuts.length cC x.timers.length cT w; rwa [hB] at h
  have HTW := Lib.hid htw
  clear htw hA hB
  cases bA
  · have HN : Hid (formR x (healM x a b) = errR 1) := HF.out.trans (if_pos (HTW.out.trans (by first | rfl | (cases bB <;> rfl))))
    clear hE
    go_enter Tryz.func90, Tryz.ntmps90
    go_wp2_with fail
    rw [← HW0.out]
    clear HW0
    refine calls_below (HIS.out _ _ (HV.out _ (Below.refl _ _))) ?_
    intro w1 hb1
    have hz1 := bl_below HZ0.out hb1
    obtain ⟨⟨k0, k1, k2, k3, k4, k5⟩, -⟩ := blc6 hz1
    have hlz := bl_lt hz1
    go_wp2_with fail
    refine calls_below (hnA.out _) ?_
    intro w2 hb2
    replace hb2 := below_trans hb1 hb2
    clear hz1 k0 k1 k2 k3 k4 k5 hlz
    have hz1 := bl_below HZ0.out hb2
    obtain ⟨⟨k0, k1, k2, k3, k4, k5⟩, -⟩ := blc6 hz1
    have hlz := bl_lt hz1
    go_wp2_with fail
    refine calls_below (Rfailed_any 1 _) ?_
    intro w9 hb9
    have hb9' := below_trans hb2 hb9
    have hm9 := bl_below HM0.out hb9'
    have hl9 := bl_lt hm9
    obtain ⟨⟨d0, d1, d2, d3, d4, d5, d6, d7, d8, d9, d10, d11, d12, d13⟩, fz⟩ := blc14 hm9
    go_wp2
    exact ret_c Tryz.results90 (w.heap.size + 1) 35 _ _ rfl (put14_all hm9) Tryz.underlying35 rfl sizeMade rfl ⟨_, rfl, by rw [HN.out]; exact MadeR_err 1, put14_below (below_trans HB0.out hb9') (by omega)⟩
  cases bB
  · have HN : Hid (formR x (healM x a b) = errR 1) := HF.out.trans (if_pos (HTW.out.trans (by first | rfl | (cases bB <;> rfl))))
    clear hE
    go_enter Tryz.func90, Tryz.ntmps90
    go_wp2_with fail
    rw [← HW0.out]
    clear HW0
    refine calls_below (HIS.out _ _ (HV.out _ (Below.refl _ _))) ?_
    intro w1 hb1
    have hz1 := bl_below HZ0.out hb1
    obtain ⟨⟨k0, k1, k2, k3, k4, k5⟩, -⟩ := blc6 hz1
    have hlz := bl_lt hz1
    go_wp2_with fail
    refine calls_below (hnA.out _) ?_
    intro w2 hb2
    replace hb2 := below_trans hb1 hb2
    clear hz1 k0 k1 k2 k3 k4 k5 hlz
    have hz1 := bl_below HZ0.out hb2
    obtain ⟨⟨k0, k1, k2, k3, k4, k5⟩, -⟩ := blc6 hz1
    have hlz := bl_lt hz1
    go_wp2_with fail
    refine calls_below (hnB.out _) ?_
    intro w3 hb3
    replace hb3 := below_trans hb2 hb3
    clear hz1 k0 k1 k2 k3 k4 k5 hlz
    have hz1 := bl_below HZ0.out hb3
    obtain ⟨⟨k0, k1, k2, k3, k4, k5⟩, -⟩ := blc6 hz1
    have hlz := bl_lt hz1
    go_wp2_with fail
    refine calls_below (Rfailed_any 1 _) ?_
    intro w9 hb9
    have hb9' := below_trans hb3 hb9
    have hm9 := bl_below HM0.out hb9'
    have hl9 := bl_lt hm9
    obtain ⟨⟨d0, d1, d2, d3, d4, d5, d6, d7, d8, d9, d10, d11, d12, d13⟩, fz⟩ := blc14 hm9
    go_wp2
    exact ret_c Tryz.results90 (w.heap.size + 1) 35 _ _ rfl (put14_all hm9) Tryz.underlying35 rfl sizeMade rfl ⟨_, rfl, by rw [HN.out]; exact MadeR_err 1, put14_below (below_trans HB0.out hb9') (by omega)⟩
  cases bE
  rotate_left 1
  · have HN : Hid (formR x (healM x a b) = errR 1) := HF.out.trans (if_pos (HTW.out.trans (by first | rfl | (cases bB <;> rfl))))
    go_enter Tryz.func90, Tryz.ntmps90
    go_wp2_with fail
    rw [← HW0.out]
    clear HW0
    refine calls_below (HIS.out _ _ (HV.out _ (Below.refl _ _))) ?_
    intro w1 hb1
    have hz1 := bl_below HZ0.out hb1
    obtain ⟨⟨k0, k1, k2, k3, k4, k5⟩, -⟩ := blc6 hz1
    have hlz := bl_lt hz1
    go_wp2_with fail
    refine calls_below (hnA.out _) ?_
    intro w2 hb2
    replace hb2 := below_trans hb1 hb2
    clear hz1 k0 k1 k2 k3 k4 k5 hlz
    have hz1 := bl_below HZ0.out hb2
    obtain ⟨⟨k0, k1, k2, k3, k4, k5⟩, -⟩ := blc6 hz1
    have hlz := bl_lt hz1
    go_wp2_with fail
    refine calls_below (hnB.out _) ?_
    intro w3 hb3
    replace hb3 := below_trans hb2 hb3
    clear hz1 k0 k1 k2 k3 k4 k5 hlz
    have hz1 := bl_below HZ0.out hb3
    obtain ⟨⟨k0, k1, k2, k3, k4, k5⟩, -⟩ := blc6 hz1
    have hlz := bl_lt hz1
    go_wp2_with fail
    refine calls_below (Rfailed_any 1 _) ?_
    intro w9 hb9
    have hb9' := below_trans hb3 hb9
    have hm9 := bl_below HM0.out hb9'
    have hl9 := bl_lt hm9
    obtain ⟨⟨d0, d1, d2, d3, d4, d5, d6, d7, d8, d9, d10, d11, d12, d13⟩, fz⟩ := blc14 hm9
    go_wp2
    exact ret_c Tryz.results90 (w.heap.size + 1) 35 _ _ rfl (put14_all hm9) Tryz.underlying35 rfl sizeMade rfl ⟨_, rfl, by rw [HN.out]; exact MadeR_err 1, put14_below (below_trans HB0.out hb9') (by omega)⟩
  have HTT : Hid (twoB x.nodes a b = true) := HTW.out.trans rfl
  clear HTW
  have hcut := fun (v : Value) (w : World) (hV : NetV w v x) => Rcut_any x a b v w hV hlc
  cases hcb : cutB x a b
  · rw [hcb] at hcut
    have hCut := Lib.hid hcut
    have HN : Hid (formR x (healM x a b) = errR 4) := HF.out.trans (by rw [heal_e HTT.out, if_neg (of_decide_eq_false hcb)])
    clear hcut hcb
    go_enter Tryz.func90, Tryz.ntmps90
    go_wp2_with fail
    rw [← HW0.out]
    clear HW0
    refine calls_below (HIS.out _ _ (HV.out _ (Below.refl _ _))) ?_
    intro w1 hb1
    have hz1 := bl_below HZ0.out hb1
    obtain ⟨⟨k0, k1, k2, k3, k4, k5⟩, -⟩ := blc6 hz1
    have hlz := bl_lt hz1
    go_wp2_with fail
    refine calls_below (hnA.out _) ?_
    intro w2 hb2
    replace hb2 := below_trans hb1 hb2
    clear hz1 k0 k1 k2 k3 k4 k5 hlz
    have hz1 := bl_below HZ0.out hb2
    obtain ⟨⟨k0, k1, k2, k3, k4, k5⟩, -⟩ := blc6 hz1
    have hlz := bl_lt hz1
    go_wp2_with fail
    refine calls_below (hnB.out _) ?_
    intro w3 hb3
    replace hb3 := below_trans hb2 hb3
    clear hz1 k0 k1 k2 k3 k4 k5 hlz
    have hz1 := bl_below HZ0.out hb3
    obtain ⟨⟨k0, k1, k2, k3, k4, k5⟩, -⟩ := blc6 hz1
    have hlz := bl_lt hz1
    go_wp2_with fail
    refine calls_below (hCut.out _ _ (HV.out _ hb3)) ?_
    intro w4 hb4
    replace hb4 := below_trans hb3 hb4
    clear hz1 k0 k1 k2 k3 k4 k5 hlz
    have hz1 := bl_below HZ0.out hb4
    obtain ⟨⟨k0, k1, k2, k3, k4, k5⟩, -⟩ := blc6 hz1
    have hlz := bl_lt hz1
    go_wp2_with fail
    refine calls_below (Rfailed_any 4 _) ?_
    intro w9 hb9
    have hb9' := below_trans hb4 hb9
    have hm9 := bl_below HM0.out hb9'
    have hl9 := bl_lt hm9
    obtain ⟨⟨d0, d1, d2, d3, d4, d5, d6, d7, d8, d9, d10, d11, d12, d13⟩, fz⟩ := blc14 hm9
    go_wp2
    exact ret_c Tryz.results90 (w.heap.size + 1) 35 _ _ rfl (put14_all hm9) Tryz.underlying35 rfl sizeMade rfl ⟨_, rfl, by rw [HN.out]; exact MadeR_err 4, put14_below (below_trans HB0.out hb9') (by omega)⟩
  rw [hcb] at hcut
  have hCut := Lib.hid hcut
  have HN : Hid (formR x (healM x a b) = ⟨{ x with cuts := x.cuts.filter (fun d => decide (d ≠ mkLk a b)) }, 0, zLt, [], 0⟩) := HF.out.trans (by rw [heal_e HTT.out, if_pos (of_decide_eq_true hcb)])
  obtain ⟨c, hc⟩ : ∃ c, c = mkLk a b := ⟨_, rfl⟩
  have hpair : Hid (∀ w, Calls Tryz.prog 110 #[.int .i64 a, .int .i64 b] w fun e w' => e = .returned (.agg #[.int .i64 c.a, .int .i64 c.b]) ∧ Below w.heap.size w w') := by rw [hc]; exact fun w => Rpair_any a b w
  rw [← hc] at HN
  clear hc hcut hcb
  go_enter Tryz.func90, Tryz.ntmps90
  go_wp2_with fail
  rw [← HW0.out]
  clear HW0
  refine calls_below (HIS.out _ _ (HV.out _ (Below.refl _ _))) ?_
  intro w1 hb1
  have hz1 := bl_below HZ0.out hb1
  obtain ⟨⟨k0, k1, k2, k3, k4, k5⟩, -⟩ := blc6 hz1
  have hlz := bl_lt hz1
  go_wp2_with fail
  refine calls_below (hnA.out _) ?_
  intro w2 hb2
  replace hb2 := below_trans hb1 hb2
  clear hz1 k0 k1 k2 k3 k4 k5 hlz
  have hz1 := bl_below HZ0.out hb2
  obtain ⟨⟨k0, k1, k2, k3, k4, k5⟩, -⟩ := blc6 hz1
  have hlz := bl_lt hz1
  go_wp2_with fail
  refine calls_below (hnB.out _) ?_
  intro w3 hb3
  replace hb3 := below_trans hb2 hb3
  clear hz1 k0 k1 k2 k3 k4 k5 hlz
  have hz1 := bl_below HZ0.out hb3
  obtain ⟨⟨k0, k1, k2, k3, k4, k5⟩, -⟩ := blc6 hz1
  have hlz := bl_lt hz1
  go_wp2_with fail
  refine calls_below (hCut.out _ _ (HV.out _ hb3)) ?_
  intro w4 hb4
  replace hb4 := below_trans hb3 hb4
  clear hz1 k0 k1 k2 k3 k4 k5 hlz
  have hz1 := bl_below HZ0.out hb4
  obtain ⟨⟨k0, k1, k2, k3, k4, k5⟩, -⟩ := blc6 hz1
  have hlz := bl_lt hz1
  obtain ⟨w6, hw6⟩ : ∃ w6, w6 = w4 := ⟨_, rfl⟩
  have HB6 : Hid (Below w0.heap.size w0 w6) := by rw [hw6]; exact hb4
  clear hz1 k0 k1 k2 k3 k4 k5 hlz hb1 hb2 hb3
  go_upto_block 1 with fail
  rw [← hw6]
  clear hw6 hb4
  go_wp2
  go_loopw [7, 8] (fun u i wr => ∃ k : Nat, k ≤ x.cuts.length ∧ i = .int .i64 k ∧ Hid (Own wr w6.heap.size 96 u ((x.cuts.take k).filter (fun d => decide (d ≠ c)))) ∧ Hid (Below w6.heap.size w6 wr)) (fun _ i _ => x.cuts.length - (intOf i).toNat)
  case atStart => exact ⟨0, Nat.zero_le _, rfl, (Own.nil _ _ _ : Own w6 w6.heap.size 96 (.slice none 0 0) ([] : List Lk)), Below.refl _ _⟩
  case round =>
    obtain ⟨k, hk, rfl, hO, hB⟩ := hrel
    have hB0 := below_trans HB6.out hB.out
    have hz1 := bl_below HZ0.out hB0
    obtain ⟨⟨k0, k1, k2, k3, k4, k5⟩, -⟩ := blc6 hz1
    have hlz := bl_lt hz1
    clear hz1 hB0
    by_cases hlk : k < x.cuts.length
    · obtain ⟨bb, off, d, rfl, hx, e0, e1⟩ := (HC.out.below (below_trans HB6.out hB.out)).lk k hlk
      have hbt : bb < wr.heap.size := World.block_lt_of_cell? wr _ e0
      have hts := Lib.hid (take_snoc' hx)
      have hq := lk_eq d c
      by_cases hcl : d = c
      all_goals
        first | rw [decide_eq_true hcl] at hq | rw [decide_eq_false hcl] at hq
        have HCL := Lib.hid hcl
        clear hcl
        go_wp2
        refine wp_mixT [(0, true), (1, true), (2, true), (3, true), (4, true), (5, true), (6, true), (7, false)] 8
          (fun w' => Below wr.heap.size wr w')
          (by kernel_rfl) (by kernel_rfl) (by kernel_rfl) (by kernel_rfl) (by kernel_rfl) (fun d _ _ _ _ h => by cases d <;> exact h) (Below.refl _ _).drew ?_
        simp only [pick, List.map_cons, List.map_nil, List.getD_cons_zero, List.getD_cons_succ, List.drop_succ_cons, List.drop_zero]
        iterate 7
          apply mix_take
          case hw => rfl
          case hy => intro W hW; obtain ⟨hwc, -⟩ := bcell hW; go_simp; try rfl
          simp only [Act.put, List.setIfInBounds_toArray, List.set_cons_zero, List.set_cons_succ]
        refine mix_do fun K' hK' => ?_
        go_wp2_with fail
        refine calls_below (hpair.out _) ?_
        intro w2 hb2
        have hb2' : Below wr.heap.size wr w2 := below_trans (Below.refl _ wr).drew hb2
        go_wp2
        refine hK' _ _ hb2' (mix_nil ?_)
        clear hK' K'
        have hB2 : Below w6.heap.size w6 w2 := below_trans hB.out hb2'
        have HO2 : Hid (Own w2 w6.heap.size 96 u7 ((x.cuts.take k).filter (fun d => decide (d ≠ c)))) := hO.out.below hb2'
        have HB2 := Lib.hid hB2
        clear k0 k1 k2 k3 k4 k5 hlz
        have hz1 := bl_below HZ0.out (below_trans HB6.out hB2)
        obtain ⟨⟨k0, k1, k2, k3, k4, k5⟩, -⟩ := blc6 hz1
        have hlz := bl_lt hz1
        have e0' := cell_below hb2' e0
        have e1' := cell_below hb2' e1
        have hbt2 : bb < w2.heap.size := World.block_lt_of_cell? w2 _ e0'
        clear hz1 hB2 hB hO hb2 hb2' e0 e1 hbt
      · have hlc : Hid ((x.cuts.take (k + 1)).filter (fun d => decide (d ≠ c)) = (x.cuts.take k).filter (fun d => decide (d ≠ c))) := by
          show _ = _
          rw [hts.out, List.filter_append]
          simp [HCL.out]
        go_wp2
        go_roundw
        case rel => exact ⟨k + 1, by omega, by go_num, by show Own _ _ _ _ _; rw [hlc.out]; exact HO2.out, HB2.out⟩
        case measure => simp [intOf]; omega
      · have hlc : Hid ((x.cuts.take (k + 1)).filter (fun d => decide (d ≠ c)) = (x.cuts.take k).filter (fun d => decide (d ≠ c)) ++ [d]) := by
          show _ = _
          rw [hts.out, List.filter_append]
          simp [HCL.out]
        go_upto_region 12 with fail
        go_wp2_with (at_builtin; refine hid_stop ?_)
        change wpList _ _ _ _ _ (w2.alloc _)
        refine wpList_app _ w6.heap.size rfl (.tmp 54) (.tmp 60) 23 96 _ 16 rfl Tryz.underlying23 infoC rfl (by decide) (by decide) u7 ((x.cuts.take k).filter (fun d => decide (d ≠ c))) [d] (some ⟨w2.heap.size, 0, none⟩) 1 rfl rfl (HO2.out.alloc _) ?hR ?hB ?hL ?_
        case hR => exact Rd.new w2 96 d #[.int .i64 d.a, .int .i64 d.b] rfl
        case hB => have h := HB2.out.size; simp; omega
        case hL =>
          have h1 : ((x.cuts.take k).filter (fun d => decide (d ≠ c))).length ≤ k := Nat.le_trans (List.length_filter_le _ _) (List.length_take_le _ _)
          simp at h1 ⊢
          omega
        intro v1 w8 ho hg hat
        have hgq : w2.grownBy w8 (u7 : Value).ownBlock := grown_of_alloc hg
        have hF1 : Hid (Own w8 w6.heap.size 96 v1 ((x.cuts.take (k + 1)).filter (fun d => decide (d ≠ c)))) := by
          show Own _ _ _ _ _
          rw [hlc.out]
          exact ho
        have hF2 : Hid (Below w6.heap.size w6 w8) := HB2.out.grown hgq HB2.out.size (fun k hk => (HO2.out.lt k hk).1)
        clear ho hg hgq hat
        go_wp2
        go_roundw
        case rel => exact ⟨k + 1, by omega, by go_num, hF1.out, hF2.out⟩
        case measure => simp [intOf]; omega
    · have hkl : k = x.cuts.length := by omega
      have HKL := Lib.hid hkl
      clear hkl
      have hO8 : Own wr w6.heap.size 96 u7 (x.cuts.filter (fun d => decide (d ≠ c))) := by
        have h := hO.out
        rw [HKL.out, List.take_length] at h
        exact h
      clear HKL hO k0 k1 k2 k3 k4 k5 hlz
      obtain ⟨A9, c9, hu9, -, -⟩ := Own.slice hO8
      have HO9 := Lib.hid hO8
      subst hu9
      have hz9 := bl_below HZ0.out (below_trans HB6.out hB.out)
      have hm9 := bl_below HM0.out (below_trans HB6.out hB.out)
      have HB9 := Lib.hid (below_trans HB6.out hB.out)
      obtain ⟨⟨k0, k1, k2, k3, k4, k5⟩, f0, f1, f2, f3, f4, f5⟩ := blc6 hz9
      obtain ⟨⟨d0, d1, d2, d3, d4, d5, d6, d7, d8, d9, d10, d11, d12, d13⟩, fz⟩ := blc14 hm9
      have hlz := bl_lt hz9
      have hlm := bl_lt hm9
      clear hz9
      obtain ⟨xs, hxs⟩ : ∃ xs, xs = x.cuts.filter (fun d => decide (d ≠ c)) := ⟨_, rfl⟩
      rw [← hxs] at HO9 HN
      simp only [← hxs]
      have HXS := Lib.hid hxs
      clear hxs
      go_wp2
      have hfar := bl_far hm9 (p := ⟨w.heap.size, 4, none⟩) (by simp) (.slice A9 xs.length c9)
      have hbl : Below w.heap.size w (wr.setCell ⟨w.heap.size, 4, none⟩ (.slice A9 xs.length c9)) := (below_trans HB0.out HB9.out).setCell (Nat.le_refl _) _
      have hq9 := HS0.out
      have hq8 := HB6.out.size
      exact ret_c Tryz.results90 (w.heap.size + 1) 35 _ _ rfl (put14_all hfar) Tryz.underlying35 rfl sizeMade rfl ⟨_, rfl, by
        rw [HN.out]
        exact ⟨AW, cW, A9, c9, AT, cT, none, 0, rfl, .inl ⟨rfl, rfl⟩, .inr ⟨_, (by first | omega | (show w.heap.size ≤ _; omega)), (HO9.out.far (by show w.heap.size < w6.heap.size; omega) _).put14 (by omega)⟩, .inl ⟨rfl, rfl⟩, ⟨_, Nat.le_refl _, Own.nil _ _ _⟩⟩, put14_below hbl (by omega)⟩
end Go.Proofs.YthlbmcfliejdiaaGreat
end

section
set_option linter.unusedVariables false
set_option linter.unusedSimpArgs false
namespace Go.Proofs.YthlbmcfliejdiaaGreat
open Go.RowKit

set_option maxHeartbeats 4000000 in
set_option maxRecDepth 100000 in
theorem RStop_rows (x : Nt) (nd tg : Int) (w : World) (AW AC AT : Option Addr) (cW cC cT : Nat) (hW : Rd w AW x.way) (hC : Rd w AC x.cuts) (hT : Rd w AT x.timers) (hlc : x.cuts.length ≤ 10000000) (hlw : x.way.length ≤ 10000000) (hlt : x.timers.length ≤ 10000000) :
    Calls Tryz.prog 92 #[.agg #[.int .i64 x.nodes, .int .i64 x.now, .int .i64 x.next, .slice AW x.way.length cW, .slice AC x.cuts.length cC, .slice AT x.timers.length cT], .int .i64 nd, .int .i64 tg] w fun e w' => ∃ v, e = .returned v ∧ MadeR w.heap.size w' x AW cW AC cC AT cT v (formR x (stopM x nd tg)) ∧ Below w.heap.size w w' := by
  obtain ⟨w0, hw0⟩ : ∃ w0, w0 = (w.alloc (.cells #[.int .i64 x.nodes, .int .i64 x.now, .int .i64 x.next, .slice AW x.way.length cW, .slice AC x.cuts.length cC, .slice AT x.timers.length cT] 26)).alloc (.cells #[.int .i64 0, .int .i64 0, .int .i64 0, .slice none 0 0, .slice none 0 0, .slice none 0 0, .int .i64 0, .int .i64 0, .int .i64 0, .int .i64 0, .int .i64 0, .string ⟨#[]⟩, .slice none 0 0, .int .i64 0] 35) := ⟨_, rfl⟩
  obtain ⟨hb0, hz0, hm0, hs0⟩ := made_start hw0
  have HV : Hid (∀ W, Below w0.heap.size w0 W → NetV W (.agg #[.int .i64 x.nodes, .int .i64 x.now, .int .i64 x.next, .slice AW x.way.length cW, .slice AC x.cuts.length cC, .slice AT x.timers.length cT]) x) := fun W hb => ⟨AW, cW, AC, cC, AT, cT, rfl, hW.below (below_trans hb0 hb), hC.below (below_trans hb0 hb), hT.below (below_trans hb0 hb)⟩
  have his := fun (v : Value) (w : World) (hV : NetV w v x) => RIs_any x v w hV hlc hlw hlt
  have HB0 := Lib.hid hb0
  have HZ0 := Lib.hid hz0
  have HM0 := Lib.hid hm0
  have HS0 := Lib.hid hs0
  have HW0 := Lib.hid hw0
  have HC := Lib.hid (hC.below hb0)
  have HT := Lib.hid (hT.below hb0)
  have HWW := Lib.hid hW
  have HTW := Lib.hid hT
  have HCW := Lib.hid hC
  clear hb0 hz0 hm0 hs0 hw0 hW hC hT
  cases hc : checkB x
  · rw [hc] at his
    have HIS := Lib.hid his
    have HN : Hid (formR x (stopM x nd tg) = errR 2) := if_pos hc
    clear his hc
    go_enter Tryz.func92, Tryz.ntmps92
    go_wp2_with fail
    rw [← HW0.out]
    clear HW0
    refine calls_below (HIS.out _ _ (HV.out _ (Below.refl _ _))) ?_
    intro w1 hb1
    have hz1 := bl_below HZ0.out hb1
    obtain ⟨⟨k0, k1, k2, k3, k4, k5⟩, -⟩ := blc6 hz1
    have hlz := bl_lt hz1
    go_wp2_with fail
    refine calls_below (Rfailed_any 2 _) ?_
    intro w9 hb9
    have hb9' := below_trans hb1 hb9
    have hm9 := bl_below HM0.out hb9'
    have hl9 := bl_lt hm9
    obtain ⟨⟨d0, d1, d2, d3, d4, d5, d6, d7, d8, d9, d10, d11, d12, d13⟩, fz⟩ := blc14 hm9
    go_wp2
    exact ret_c Tryz.results92 (w.heap.size + 1) 35 _ _ rfl (put14_all hm9) Tryz.underlying35 rfl sizeMade rfl ⟨_, rfl, by rw [HN.out]; exact MadeR_err 2, put14_below (below_trans HB0.out hb9') (by omega)⟩
  rw [hc] at his
  have HIS := Lib.hid his
  have HF : Hid (formR x (stopM x nd tg) = stopM x nd tg) := if_neg (by rw [hc]; decide)
  have HOK : Hid (Ok x) := (ok_iff x).1 hc
  clear his hc
  obtain ⟨bA, hA⟩ : ∃ b, isNodeB x.nodes nd = b := ⟨_, rfl⟩
  have hnA : Hid (∀ w, Calls Tryz.prog 41 #[.agg #[.int .i64 x.nodes, .int .i64 x.now, .int .i64 x.next, .slice AW x.way.length cW, .slice AC x.cuts.length cC, .slice AT x.timers.length cT], .int .i64 nd] w fun e w' => e = .returned (.bool bA) ∧ Below w.heap.size w w') := fun w => by have h := RisNode_any x.nodes x.now x.next nd AW AC AT x.way.length cW x.cuts.length cC x.timers.length cT w; rwa [hA] at h
  have htw : stopB x.nodes nd tg = (bA && decide (0 ≤ tg) && decide (tg ≤ 2147483647)) := by unfold stopB; rw [hA]
  have HTW := Lib.hid htw
  clear htw hA
  have hot := fun (A : Option Addr) (c : Nat) (w : World) (hR : Rd w A x.timers) => Rothers_any A c x.timers nd tg w hR hlt
  obtain ⟨ls, hls⟩ : ∃ ls, ls = othersF nd tg x.timers := ⟨_, rfl⟩
  have hle := others_len nd tg x.timers
  have hmod : stopM x nd tg = if stopB x.nodes nd tg = false then errR 1 else if ls.length = x.timers.length then errR 4 else ⟨{ x with timers := ls }, 0, zLt, [], 0⟩ := by rw [hls]; rfl
  rw [← hls] at hot hle
  have HOT := Lib.hid hot
  have HMOD := Lib.hid hmod
  clear hls hot hmod
  go_enter Tryz.func92, Tryz.ntmps92
  go_wp2_with fail
  rw [← HW0.out]
  clear HW0
  refine calls_below (HIS.out _ _ (HV.out _ (Below.refl _ _))) ?_
  intro w1 hb1
  have hz1 := bl_below HZ0.out hb1
  obtain ⟨⟨k0, k1, k2, k3, k4, k5⟩, -⟩ := blc6 hz1
  have hlz := bl_lt hz1
  go_upto_region 3 with fail
  go_cut [23] (fun s wx => s = .bool (!stopB x.nodes nd tg) ∧ Hid (Below w1.heap.size w1 wx))
  case first =>
    go_wp2_with fail
    refine calls_below (hnA.out _) ?_
    intro w2 hb2
    cases bA
    · go_wp2
      go_meet
      case rel => exact ⟨by rw [HTW.out]; rfl, hb2⟩
    · by_cases c1 : tg < 0
      · have d1 : decide (tg < 0) = true := decide_eq_true c1
        clear c1
        go_wp2
        go_meet
        case rel => exact ⟨by rw [HTW.out, decide_eq_false (by have := of_decide_eq_true d1; omega)]; rfl, hb2⟩
      · have d1 : decide (tg < 0) = false := decide_eq_false c1
        clear c1
        by_cases c2 : 2147483647 < tg
        · have d2 : decide (2147483647 < tg) = true := decide_eq_true c2
          clear c2
          go_wp2
          go_meet
          case rel => exact ⟨by rw [HTW.out, decide_eq_true (by have := of_decide_eq_false d1; omega), decide_eq_false (by have := of_decide_eq_true d2; omega)]; rfl, hb2⟩
        · have d2 : decide (2147483647 < tg) = false := decide_eq_false c2
          clear c2
          go_wp2
          go_meet
          case rel => exact ⟨by rw [HTW.out, decide_eq_true (by have := of_decide_eq_false d1; omega), decide_eq_true (by have := of_decide_eq_false d2; omega)]; rfl, hb2⟩
  case rest =>
    obtain ⟨rfl, hb2⟩ := hcut
    obtain ⟨w2, hw2⟩ : ∃ w2, w2 = wc := ⟨_, rfl⟩
    have hb2' : Below w0.heap.size w0 w2 := by rw [hw2]; exact below_trans hb1 hb2.out
    rw [← hw2]
    clear hw2 hb2 k0 k1 k2 k3 k4 k5 hlz hz1
    cases hsb : stopB x.nodes nd tg
    · have HN : Hid (formR x (stopM x nd tg) = errR 1) := HF.out.trans (HMOD.out.trans (if_pos hsb))
      clear hsb
      go_wp2_with fail
      refine calls_below (Rfailed_any 1 _) ?_
      intro w9 hb9
      have hb9' := below_trans hb2' hb9
      have hm9 := bl_below HM0.out hb9'
      have hl9 := bl_lt hm9
      obtain ⟨⟨d0, d1, d2, d3, d4, d5, d6, d7, d8, d9, d10, d11, d12, d13⟩, fz⟩ := blc14 hm9
      go_wp2
      exact ret_c Tryz.results92 (w.heap.size + 1) 35 _ _ rfl (put14_all hm9) Tryz.underlying35 rfl sizeMade rfl ⟨_, rfl, by rw [HN.out]; exact MadeR_err 1, put14_below (below_trans HB0.out hb9') (by omega)⟩
    have hmod2 := HMOD.out.trans (if_neg (by rw [hsb]; decide))
    have HM2 := Lib.hid hmod2
    clear hmod2 hsb
    obtain ⟨⟨k0, k1, k2, k3, k4, k5⟩, -⟩ := blc6 (bl_below HZ0.out hb2')
    have hlz := bl_lt (bl_below HZ0.out hb2')
    go_wp2_with fail
    refine (HOT.out _ _ _ (HT.out.below hb2')).mono ?_
    rintro e w3 ⟨u, rfl, hU, hb3⟩
    obtain ⟨A9, c9, rfl, -, -⟩ := Own.slice hU
    have HU := Lib.hid hU
    have hb3' := below_trans hb2' hb3
    clear hU k0 k1 k2 k3 k4 k5 hlz
    obtain ⟨⟨k0, k1, k2, k3, k4, k5⟩, -⟩ := blc6 (bl_below HZ0.out hb3')
    have hlz := bl_lt (bl_below HZ0.out hb3')
    by_cases hlen : ls.length = x.timers.length
    · have d1 : ((ls.length : Int) == (x.timers.length : Int)) = true := by simp [hlen]
      have HN : Hid (formR x (stopM x nd tg) = errR 4) := HF.out.trans (HM2.out.trans (if_pos hlen))
      clear hlen
      go_wp2_with fail
      refine calls_below (Rfailed_any 4 _) ?_
      intro w9 hb9
      have hb9' := below_trans hb3' hb9
      have hm9 := bl_below HM0.out hb9'
      have hl9 := bl_lt hm9
      obtain ⟨⟨d0, d1, d2, d3, d4, d5, d6, d7, d8, d9, d10, d11, d12, d13⟩, fz⟩ := blc14 hm9
      go_wp2
      exact ret_c Tryz.results92 (w.heap.size + 1) 35 _ _ rfl (put14_all hm9) Tryz.underlying35 rfl sizeMade rfl ⟨_, rfl, by rw [HN.out]; exact MadeR_err 4, put14_below (below_trans HB0.out hb9') (by omega)⟩
    have d1 : (ls.length == x.timers.length) = false := by simp [hlen]
    have HN : Hid (formR x (stopM x nd tg) = ⟨{ x with timers := ls }, 0, zLt, [], 0⟩) := HF.out.trans (HM2.out.trans (if_neg hlen))
    clear hlen
    have hq2 := hb2'.size
    clear k0 k1 k2 k3 k4 k5 hlz
    have HO9 := Lib.hid (HU.out)
    have hz9 := bl_below HZ0.out (hb3')
    have hm9 := bl_below HM0.out (hb3')
    have HB9 := Lib.hid (hb3')
    obtain ⟨⟨k0, k1, k2, k3, k4, k5⟩, f0, f1, f2, f3, f4, f5⟩ := blc6 hz9
    obtain ⟨⟨d0, d1, d2, d3, d4, d5, d6, d7, d8, d9, d10, d11, d12, d13⟩, fz⟩ := blc14 hm9
    have hlz := bl_lt hz9
    have hlm := bl_lt hm9
    clear hz9
    go_wp2
    have hfar := bl_far hm9 (p := ⟨w.heap.size, 5, none⟩) (by simp) (.slice A9 (ls).length c9)
    have hbl : Below w.heap.size w (w3.setCell ⟨w.heap.size, 5, none⟩ (.slice A9 (ls).length c9)) := (below_trans HB0.out HB9.out).setCell (Nat.le_refl _) _
    have hq9 := HS0.out

    exact ret_c Tryz.results92 (w.heap.size + 1) 35 _ _ rfl (put14_all hfar) Tryz.underlying35 rfl sizeMade rfl ⟨_, rfl, by
      rw [HN.out]
      exact ⟨AW, cW, AC, cC, A9, c9, none, 0, rfl, .inl ⟨rfl, rfl⟩, .inl ⟨rfl, rfl⟩, .inr ⟨_, (by first | omega | (show w.heap.size ≤ _; omega)), (HO9.out.far (by show w.heap.size < _; omega) _).put14 (by omega)⟩, ⟨_, Nat.le_refl _, Own.nil _ _ _⟩⟩, put14_below hbl (by omega)⟩
set_option maxHeartbeats 4000000 in
set_option maxRecDepth 100000 in
theorem RSet_rows (x : Nt) (nd tg n : Int) (w : World) (AW AC AT : Option Addr) (cW cC cT : Nat) (hW : Rd w AW x.way) (hC : Rd w AC x.cuts) (hT : Rd w AT x.timers) (hlc : x.cuts.length ≤ 10000000) (hlw : x.way.length ≤ 10000000) (hlt : x.timers.length ≤ 10000000) :
    Calls Tryz.prog 91 #[.agg #[.int .i64 x.nodes, .int .i64 x.now, .int .i64 x.next, .slice AW x.way.length cW, .slice AC x.cuts.length cC, .slice AT x.timers.length cT], .int .i64 nd, .int .i64 tg, .int .i64 n] w fun e w' => ∃ v, e = .returned v ∧ MadeR w.heap.size w' x AW cW AC cC AT cT v (formR x (setM x nd tg n)) ∧ Below w.heap.size w w' := by
  obtain ⟨w0, hw0⟩ : ∃ w0, w0 = (w.alloc (.cells #[.int .i64 x.nodes, .int .i64 x.now, .int .i64 x.next, .slice AW x.way.length cW, .slice AC x.cuts.length cC, .slice AT x.timers.length cT] 26)).alloc (.cells #[.int .i64 0, .int .i64 0, .int .i64 0, .slice none 0 0, .slice none 0 0, .slice none 0 0, .int .i64 0, .int .i64 0, .int .i64 0, .int .i64 0, .int .i64 0, .string ⟨#[]⟩, .slice none 0 0, .int .i64 0] 35) := ⟨_, rfl⟩
  obtain ⟨hb0, hz0, hm0, hs0⟩ := made_start hw0
  have HV : Hid (∀ W, Below w0.heap.size w0 W → NetV W (.agg #[.int .i64 x.nodes, .int .i64 x.now, .int .i64 x.next, .slice AW x.way.length cW, .slice AC x.cuts.length cC, .slice AT x.timers.length cT]) x) := fun W hb => ⟨AW, cW, AC, cC, AT, cT, rfl, hW.below (below_trans hb0 hb), hC.below (below_trans hb0 hb), hT.below (below_trans hb0 hb)⟩
  have his := fun (v : Value) (w : World) (hV : NetV w v x) => RIs_any x v w hV hlc hlw hlt
  have HB0 := Lib.hid hb0
  have HZ0 := Lib.hid hz0
  have HM0 := Lib.hid hm0
  have HS0 := Lib.hid hs0
  have HW0 := Lib.hid hw0
  have HC := Lib.hid (hC.below hb0)
  have HT := Lib.hid (hT.below hb0)
  have HWW := Lib.hid hW
  have HTW := Lib.hid hT
  have HCW := Lib.hid hC
  clear hb0 hz0 hm0 hs0 hw0 hW hC hT
  cases hc : checkB x
  · rw [hc] at his
    have HIS := Lib.hid his
    have HN : Hid (formR x (setM x nd tg n) = errR 2) := if_pos hc
    clear his hc
    go_enter Tryz.func91, Tryz.ntmps91
    go_wp2_with fail
    rw [← HW0.out]
    clear HW0
    refine calls_below (HIS.out _ _ (HV.out _ (Below.refl _ _))) ?_
    intro w1 hb1
    have hz1 := bl_below HZ0.out hb1
    obtain ⟨⟨k0, k1, k2, k3, k4, k5⟩, -⟩ := blc6 hz1
    have hlz := bl_lt hz1
    go_wp2_with fail
    refine calls_below (Rfailed_any 2 _) ?_
    intro w9 hb9
    have hb9' := below_trans hb1 hb9
    have hm9 := bl_below HM0.out hb9'
    have hl9 := bl_lt hm9
    obtain ⟨⟨d0, d1, d2, d3, d4, d5, d6, d7, d8, d9, d10, d11, d12, d13⟩, fz⟩ := blc14 hm9
    go_wp2
    exact ret_c Tryz.results91 (w.heap.size + 1) 35 _ _ rfl (put14_all hm9) Tryz.underlying35 rfl sizeMade rfl ⟨_, rfl, by rw [HN.out]; exact MadeR_err 2, put14_below (below_trans HB0.out hb9') (by omega)⟩
  rw [hc] at his
  have HIS := Lib.hid his
  have HF : Hid (formR x (setM x nd tg n) = setM x nd tg n) := if_neg (by rw [hc]; decide)
  have HOK : Hid (Ok x) := (ok_iff x).1 hc
  clear his hc
  obtain ⟨bA, hA⟩ : ∃ b, isNodeB x.nodes nd = b := ⟨_, rfl⟩
  have hnA : Hid (∀ w, Calls Tryz.prog 41 #[.agg #[.int .i64 x.nodes, .int .i64 x.now, .int .i64 x.next, .slice AW x.way.length cW, .slice AC x.cuts.length cC, .slice AT x.timers.length cT], .int .i64 nd] w fun e w' => e = .returned (.bool bA) ∧ Below w.heap.size w w') := fun w => by have h := RisNode_any x.nodes x.now x.next nd AW AC AT x.way.length cW x.cuts.length cC x.timers.length cT w; rwa [hA] at h
  have htw : setB x.nodes nd tg n = (bA && decide (0 ≤ tg) && decide (tg ≤ 2147483647) && decide (1 ≤ n) && decide (n ≤ 1000)) := by unfold setB stopB; rw [hA]
  have HTW := Lib.hid htw
  clear htw hA
  have hot := fun (A : Option Addr) (c : Nat) (w : World) (hR : Rd w A x.timers) => Rothers_any A c x.timers nd tg w hR hlt
  obtain ⟨ls, hls⟩ : ∃ ls, ls = othersF nd tg x.timers := ⟨_, rfl⟩
  have hle := others_len nd tg x.timers
  have hmod : setM x nd tg n = if setB x.nodes nd tg n = false then errR 1 else if ls.length = 64 then errR 7 else ⟨{ x with timers := insS tmCmp ⟨x.now + n, nd, tg⟩ ls }, 0, zLt, [], 0⟩ := by rw [hls]; rfl
  rw [← hls] at hot hle
  have HOT := Lib.hid hot
  have HMOD := Lib.hid hmod
  clear hls hot hmod
  go_enter Tryz.func91, Tryz.ntmps91
  go_wp2_with fail
  rw [← HW0.out]
  clear HW0
  refine calls_below (HIS.out _ _ (HV.out _ (Below.refl _ _))) ?_
  intro w1 hb1
  have hz1 := bl_below HZ0.out hb1
  obtain ⟨⟨k0, k1, k2, k3, k4, k5⟩, -⟩ := blc6 hz1
  have hlz := bl_lt hz1
  go_upto_region 3 with fail
  go_cut [37] (fun s wx => s = .bool (!setB x.nodes nd tg n) ∧ Hid (Below w1.heap.size w1 wx))
  case first =>
    go_wp2_with fail
    refine calls_below (hnA.out _) ?_
    intro w2 hb2
    cases bA
    · go_wp2
      go_meet
      case rel => exact ⟨by rw [HTW.out]; rfl, hb2⟩
    cases d0 : decide (tg < 0)
    rotate_left 1
    · go_wp2
      go_meet
      case rel => exact ⟨by rw [HTW.out, decide_eq_false (p := 0 ≤ tg) (by have := of_decide_eq_true d0; omega)]; simp, hb2⟩
    cases d1 : decide (2147483647 < tg)
    rotate_left 1
    · go_wp2
      go_meet
      case rel => exact ⟨by rw [HTW.out, decide_eq_true (p := 0 ≤ tg) (by have := of_decide_eq_false d0; omega), decide_eq_false (p := tg ≤ 2147483647) (by have := of_decide_eq_true d1; omega)]; simp, hb2⟩
    cases d2 : decide (n < 1)
    rotate_left 1
    · go_wp2
      go_meet
      case rel => exact ⟨by rw [HTW.out, decide_eq_true (p := 0 ≤ tg) (by have := of_decide_eq_false d0; omega), decide_eq_true (p := tg ≤ 2147483647) (by have := of_decide_eq_false d1; omega), decide_eq_false (p := 1 ≤ n) (by have := of_decide_eq_true d2; omega)]; simp, hb2⟩
    cases d3 : decide (1000 < n)
    rotate_left 1
    · go_wp2
      go_meet
      case rel => exact ⟨by rw [HTW.out, decide_eq_true (p := 0 ≤ tg) (by have := of_decide_eq_false d0; omega), decide_eq_true (p := tg ≤ 2147483647) (by have := of_decide_eq_false d1; omega), decide_eq_true (p := 1 ≤ n) (by have := of_decide_eq_false d2; omega), decide_eq_false (p := n ≤ 1000) (by have := of_decide_eq_true d3; omega)]; simp, hb2⟩
    go_wp2
    go_meet
    case rel => exact ⟨by rw [HTW.out, decide_eq_true (p := 0 ≤ tg) (by have := of_decide_eq_false d0; omega), decide_eq_true (p := tg ≤ 2147483647) (by have := of_decide_eq_false d1; omega), decide_eq_true (p := 1 ≤ n) (by have := of_decide_eq_false d2; omega), decide_eq_true (p := n ≤ 1000) (by have := of_decide_eq_false d3; omega)]; rfl, hb2⟩
  case rest =>
    obtain ⟨rfl, hb2⟩ := hcut
    obtain ⟨w2, hw2⟩ : ∃ w2, w2 = wc := ⟨_, rfl⟩
    have hb2' : Below w0.heap.size w0 w2 := by rw [hw2]; exact below_trans hb1 hb2.out
    rw [← hw2]
    clear hw2 hb2 k0 k1 k2 k3 k4 k5 hlz hz1
    cases hsb : setB x.nodes nd tg n
    · have HN : Hid (formR x (setM x nd tg n) = errR 1) := HF.out.trans (HMOD.out.trans (if_pos hsb))
      clear hsb
      go_wp2_with fail
      refine calls_below (Rfailed_any 1 _) ?_
      intro w9 hb9
      have hb9' := below_trans hb2' hb9
      have hm9 := bl_below HM0.out hb9'
      have hl9 := bl_lt hm9
      obtain ⟨⟨d0, d1, d2, d3, d4, d5, d6, d7, d8, d9, d10, d11, d12, d13⟩, fz⟩ := blc14 hm9
      go_wp2
      exact ret_c Tryz.results91 (w.heap.size + 1) 35 _ _ rfl (put14_all hm9) Tryz.underlying35 rfl sizeMade rfl ⟨_, rfl, by rw [HN.out]; exact MadeR_err 1, put14_below (below_trans HB0.out hb9') (by omega)⟩
    have hmod2 := HMOD.out.trans (if_neg (by rw [hsb]; decide))
    have HM2 := Lib.hid hmod2
    have hn : 1 ≤ n ∧ n ≤ 1000 := by
      have h := HTW.out
      rw [hsb] at h
      simp only [Bool.true_eq, Bool.and_eq_true, decide_eq_true_eq] at h
      omega
    have hn1 := hn.1
    have hn2 := hn.2
    have ht0 : 0 ≤ x.now := HOK.out.t0
    have ht1 : x.now ≤ 1099511627776 := HOK.out.t1
    clear hmod2 hsb hn
    obtain ⟨⟨k0, k1, k2, k3, k4, k5⟩, -⟩ := blc6 (bl_below HZ0.out hb2')
    have hlz := bl_lt (bl_below HZ0.out hb2')
    go_wp2_with fail
    refine (HOT.out _ _ _ (HT.out.below hb2')).mono ?_
    rintro e w3 ⟨u, rfl, hU, hb3⟩
    obtain ⟨A8, c8, rfl, -, -⟩ := Own.slice hU
    have HU := Lib.hid hU
    have hb3' := below_trans hb2' hb3
    clear hU k0 k1 k2 k3 k4 k5 hlz
    obtain ⟨⟨k0, k1, k2, k3, k4, k5⟩, -⟩ := blc6 (bl_below HZ0.out hb3')
    have hlz := bl_lt (bl_below HZ0.out hb3')
    by_cases hlen : ls.length = 64
    · have d1 : ((ls.length : Int) == 64) = true := by simp [hlen]
      have HN : Hid (formR x (setM x nd tg n) = errR 7) := HF.out.trans (HM2.out.trans (if_pos hlen))
      clear hlen
      go_wp2_with fail
      refine calls_below (Rfailed_any 7 _) ?_
      intro w9 hb9
      have hb9' := below_trans hb3' hb9
      have hm9 := bl_below HM0.out hb9'
      have hl9 := bl_lt hm9
      obtain ⟨⟨d0, d1, d2, d3, d4, d5, d6, d7, d8, d9, d10, d11, d12, d13⟩, fz⟩ := blc14 hm9
      go_wp2
      exact ret_c Tryz.results91 (w.heap.size + 1) 35 _ _ rfl (put14_all hm9) Tryz.underlying35 rfl sizeMade rfl ⟨_, rfl, by rw [HN.out]; exact MadeR_err 7, put14_below (below_trans HB0.out hb9') (by omega)⟩
    have d1 : ((ls.length : Int) == 64) = false := by simp; omega
    have HN : Hid (formR x (setM x nd tg n) = ⟨{ x with timers := insS tmCmp ⟨x.now + n, nd, tg⟩ ls }, 0, zLt, [], 0⟩) := HF.out.trans (HM2.out.trans (if_neg hlen))
    clear hlen
    have hq2 := hb2'.size
    go_upto_block 0 with fail
    obtain ⟨c, hc⟩ : ∃ c : Tm, c = ⟨x.now + n, nd, tg⟩ := ⟨_, rfl⟩
    rw [← hc] at HN
    have hc1 : c.t = x.now + n := by rw [hc]
    have hc2 : c.node = nd := by rw [hc]
    have hc3 : c.tag = tg := by rw [hc]
    generalize hw6 : World.alloc _ _ = w6
    have hw6' : w6 = w3.alloc (.cells #[.int .i64 c.t, .int .i64 c.node, .int .i64 c.tag] 86) := by rw [hc1, hc2, hc3]; exact hw6.symm
    have hb6 : Below w3.heap.size w3 w6 := by rw [hw6']; exact below_alloc (Below.refl _ _) _
    have hl6 : w6.heap[w3.heap.size]? = some (.cells #[.int .i64 c.t, .int .i64 c.node, .int .i64 c.tag] 86 (0, 0)) := by rw [hw6']; exact bl_new _ _
    have HB6 := Lib.hid (below_trans hb3' hb6)
    have HL6 := Lib.hid hl6
    have HLS := Lib.hid (HU.out.rd.below hb6)
    clear hw6 hw6' hb6 hl6 hb2' hb3 hb3' k0 k1 k2 k3 k4 k5 hlz d1 hc hc1 hc2 hc3 HU
    have hlsl : ls.length ≤ 10000000 := by omega
    go_wp2
    go_loopw [11, 12, 13] (fun u dn i wr => ∃ k : Nat, k ≤ ls.length ∧ i = .int .i64 k ∧ dn = .bool (gtAny tmCmp c (ls.take k)) ∧ Hid (Own wr w6.heap.size 86 u (outS tmCmp c (ls.take k))) ∧ Hid (Below w6.heap.size w6 wr)) (fun _ _ i _ => ls.length - (intOf i).toNat)
    case atStart => exact ⟨0, Nat.zero_le _, rfl, rfl, (Own.nil _ _ _ : Own w6 w6.heap.size 86 (.slice none 0 0) ([] : List Tm)), Below.refl _ _⟩
    case round =>
      obtain ⟨k, hk, rfl, rfl, hO, hB⟩ := hrel
      have hl7 := bl_below HL6.out hB.out
      obtain ⟨⟨c0, c1, c2⟩, -⟩ := blc3 hl7
      have hll := bl_lt hl7
      obtain ⟨dn, hdn⟩ : ∃ dn, gtAny tmCmp c (ls.take k) = dn := ⟨_, rfl⟩
      have HDN := Lib.hid hdn
      rw [hdn]
      clear hdn hl7
      by_cases hlk : k < ls.length
      · obtain ⟨bb, off, d, rfl, hx, e0, e1, e2⟩ := (HLS.out.below hB.out).tm k hlk
        have hbt : bb < wr.heap.size := World.block_lt_of_cell? wr _ e0
        have hts := Lib.hid (take_snoc' hx)
        obtain ⟨bL, hbL⟩ : ∃ b, lesserB c d = b := ⟨_, rfl⟩
        have hLess : Hid (∀ w, Calls Tryz.prog 73 #[.agg #[.int .i64 c.t, .int .i64 c.node, .int .i64 c.tag], .agg #[.int .i64 d.t, .int .i64 d.node, .int .i64 d.tag]] w fun e w' => e = .returned (.bool bL) ∧ Below w.heap.size w w') := fun w => by have h := Rlesser_any c d w; rw [hbL] at h; exact h
        have HBL := Lib.hid hbL
        clear hbL
        go_upto_region 14 with fail
        go_cut [70] (fun s wx => s = .bool (!dn && bL) ∧ Hid (Below wr.heap.size wr wx))
        case first =>
          cases dn
          · refine wp_mixT [(0, true), (1, true), (2, true), (3, true), (4, true), (5, true), (6, true), (7, true), (8, false)] 9
              (fun w' => Below wr.heap.size wr w')
              (by kernel_rfl) (by kernel_rfl) (by kernel_rfl) (by kernel_rfl) (by kernel_rfl) (fun d _ _ _ _ h => by cases d <;> exact h) (Below.refl _ _).drew ?_
            simp only [pick, List.map_cons, List.map_nil, List.getD_cons_zero, List.getD_cons_succ, List.drop_succ_cons, List.drop_zero]
            iterate 8
              apply mix_take
              case hw => rfl
              case hy => intro W hW; obtain ⟨hwc, -⟩ := bcell hW; go_simp; try rfl
              simp only [Act.put, List.setIfInBounds_toArray, List.set_cons_zero, List.set_cons_succ]
            refine mix_do fun K' hK' => ?_
            go_wp2_with fail
            refine calls_below (hLess.out _) ?_
            intro w2 hb2
            have hb2' : Below wr.heap.size wr w2 := below_trans (Below.refl _ wr).drew hb2
            go_wp2
            refine hK' _ _ hb2' (mix_nil ?_)
            clear hK' K'
            go_wp2
            go_meet
            case rel => exact ⟨rfl, hb2'⟩
          · refine wp_mixT [(0, true), (1, true), (2, true), (3, true), (4, true), (5, true), (6, true), (7, true), (8, false)] 9
              (fun w' => Below wr.heap.size wr w')
              (by kernel_rfl) (by kernel_rfl) (by kernel_rfl) (by kernel_rfl) (by kernel_rfl) (fun d _ _ _ _ h => by cases d <;> exact h) (Below.refl _ _).drew ?_
            simp only [pick, List.map_cons, List.map_nil, List.getD_cons_zero, List.getD_cons_succ, List.drop_succ_cons, List.drop_zero]
            iterate 3
              apply mix_take
              case hw => rfl
              case hy => intro W hW; obtain ⟨hwc, -⟩ := bcell hW; go_simp; try rfl
              simp only [Act.put, List.setIfInBounds_toArray, List.set_cons_zero, List.set_cons_succ]
            iterate 5
              apply mix_skip
              case hw => rfl
              simp only [Act.put, List.setIfInBounds_toArray, List.set_cons_zero, List.set_cons_succ]
            refine mix_do fun K' hK' => ?_
            go_wp2
            refine hK' _ _ (Below.refl _ _).drew (mix_nil ?_)
            clear hK' K'
            go_wp2
            go_meet
            case rel => exact ⟨rfl, (Below.refl _ _).drew⟩
        case rest =>
          obtain ⟨rfl, hb7⟩ := hcut
          obtain ⟨w7, hw7⟩ : ∃ w7, w7 = wc := ⟨_, rfl⟩
          rw [← hw7] at hb7 ⊢
          clear hw7
          have hO7 : Own w7 w6.heap.size 86 u11 (outS tmCmp c (ls.take k)) := hO.out.below hb7.out
          have hB7 : Below w6.heap.size w6 w7 := below_trans hB.out hb7.out
          have HO7 := Lib.hid hO7
          have HB7 := Lib.hid hB7
          have HLL : Hid ((outS tmCmp c (ls.take k)).length ≤ k + 1) := by
            have h1 := outS_len tmCmp c (ls.take k)
            have h2 : (ls.take k).length ≤ k := List.length_take_le _ _
            show _ ≤ _
            omega
          clear c0 c1 c2 hll e0 e1 e2 hbt
          have hl7 := bl_below HL6.out hB7
          obtain ⟨⟨c0, c1, c2⟩, -⟩ := blc3 hl7
          have hll := bl_lt hl7
          obtain ⟨bb', off', d', hA', hx', e0, e1, e2⟩ := (HLS.out.below hB7).tm k hlk
          obtain rfl : d' = d := Option.some.inj (hx'.out.symm.trans hx.out)
          cases hA'
          have hbt : bb < w7.heap.size := World.block_lt_of_cell? w7 _ e0
          clear hl7 hB7 hO7 hb7 hO hB hx'
          cases dn
          rotate_left 1
          · simp only [Bool.not_true, Bool.false_and]
            go_wp2_with (at_builtin; refine hid_stop ?_)
            change wpList _ _ _ _ _ (w7.alloc _)
            refine wpList_app _ w6.heap.size rfl (.tmp 75) (.tmp 80) 24 86 _ 24 rfl Tryz.underlying24 infoT rfl (by decide) (by decide) u11 (outS tmCmp c (ls.take k)) [d'] (some ⟨w7.heap.size, 0, none⟩) 1 rfl rfl (HO7.out.alloc _) ?hR ?hB ?hL ?_
            case hR => exact Rd.new w7 86 d' #[.int .i64 d'.t, .int .i64 d'.node, .int .i64 d'.tag] rfl
            case hB => have h := (HB7.out).size; simp; omega
            case hL => have h := HLL.out; simp; omega
            intro v1 w8 ho hg hat
            have hgq : w7.grownBy w8 (u11 : Value).ownBlock := grown_of_alloc hg
            have hF1 : Hid (Own w8 w6.heap.size 86 v1 (outS tmCmp c (ls.take (k + 1)))) := by
              show Own _ _ _ _ _
              rw [hts.out, outS_yes tmCmp c d' HDN.out]
              exact ho
            have hF2 : Hid (Below w6.heap.size w6 w8) := HB7.out.grown hgq HB7.out.size (fun k hk => (HO7.out.lt k hk).1)
            have hF3 : Hid (gtAny tmCmp c (ls.take (k + 1)) = true) := by show _ = _; rw [hts.out, gtAny_snoc, HDN.out]; rfl
            clear ho hg hgq hat
            go_wp2
            go_roundw
            case rel => exact ⟨k + 1, by omega, by go_num, by rw [hF3.out], hF1.out, hF2.out⟩
            case measure => simp [intOf]; omega
          simp only [Bool.not_false, Bool.true_and]
          cases bL
          · have hgt : Hid (¬ tmCmp c d' < 0) := by show ¬ _; exact of_decide_eq_false HBL.out
            go_wp2_with (at_builtin; refine hid_stop ?_)
            change wpList _ _ _ _ _ (w7.alloc _)
            refine wpList_app _ w6.heap.size rfl (.tmp 75) (.tmp 80) 24 86 _ 24 rfl Tryz.underlying24 infoT rfl (by decide) (by decide) u11 (outS tmCmp c (ls.take k)) [d'] (some ⟨w7.heap.size, 0, none⟩) 1 rfl rfl (HO7.out.alloc _) ?hR ?hB ?hL ?_
            case hR => exact Rd.new w7 86 d' #[.int .i64 d'.t, .int .i64 d'.node, .int .i64 d'.tag] rfl
            case hB => have h := (HB7.out).size; simp; omega
            case hL => have h := HLL.out; simp; omega
            intro v1 w8 ho hg hat
            have hgq : w7.grownBy w8 (u11 : Value).ownBlock := grown_of_alloc hg
            have hF1 : Hid (Own w8 w6.heap.size 86 v1 (outS tmCmp c (ls.take (k + 1)))) := by
              show Own _ _ _ _ _
              rw [hts.out, outS_no tmCmp c d' HDN.out (by have h := hgt.out; omega)]
              exact ho
            have hF2 : Hid (Below w6.heap.size w6 w8) := HB7.out.grown hgq HB7.out.size (fun k hk => (HO7.out.lt k hk).1)
            have hF3 : Hid (gtAny tmCmp c (ls.take (k + 1)) = false) := by show _ = _; rw [hts.out, gtAny_snoc, HDN.out]; rw [decide_eq_false (by have h := hgt.out; omega)]; rfl
            clear ho hg hgq hat
            go_wp2
            go_roundw
            case rel => exact ⟨k + 1, by omega, by go_num, by rw [hF3.out], hF1.out, hF2.out⟩
            case measure => simp [intOf]; omega
          · have hgt : Hid (tmCmp c d' < 0) := by show _ < _; exact of_decide_eq_true HBL.out
            go_wp2_with (at_builtin; refine hid_stop ?_)
            change wpList _ _ _ _ _ (w7.alloc _)
            refine wpList_app _ w6.heap.size rfl (.tmp 71) (.tmp 73) 24 86 _ 24 rfl Tryz.underlying24 infoT rfl (by decide) (by decide) u11 (outS tmCmp c (ls.take k)) [c] (some ⟨w7.heap.size, 0, none⟩) 1 rfl rfl (HO7.out.alloc _) ?hR ?hB ?hL ?_
            case hR => exact Rd.new w7 86 c #[.int .i64 c.t, .int .i64 c.node, .int .i64 c.tag] rfl
            case hB => have h := (HB7.out).size; simp; omega
            case hL => have h := HLL.out; simp; omega
            intro v1 w8 ho hg hat
            have hgq : w7.grownBy w8 (u11 : Value).ownBlock := grown_of_alloc hg
            have HO8 := Lib.hid ho
            have HB8 : Hid (Below w6.heap.size w6 w8) := HB7.out.grown hgq HB7.out.size (fun k hk => (HO7.out.lt k hk).1)
            clear ho hg hgq hat c0 c1 c2 hll e0 e1 e2 hbt
            obtain ⟨bb2, off2, d2, hA2, hx2, e0, e1, e2⟩ := (HLS.out.below HB8.out).tm k hlk
            obtain rfl : d2 = d' := Option.some.inj (hx2.out.symm.trans hx.out)
            cases hA2
            have hbt : bb < w8.heap.size := World.block_lt_of_cell? w8 _ e0
            clear hx2
            go_wp2_with (at_builtin; refine hid_stop ?_)
            change wpList _ _ _ _ _ (w8.alloc _)
            refine wpList_app _ w6.heap.size rfl (.tmp 75) (.tmp 80) 24 86 _ 24 rfl Tryz.underlying24 infoT rfl (by decide) (by decide) v1 (outS tmCmp c (ls.take k) ++ [c]) [d2] (some ⟨w8.heap.size, 0, none⟩) 1 rfl rfl (HO8.out.alloc _) ?hR ?hB ?hL ?_
            case hR => exact Rd.new w8 86 d2 #[.int .i64 d2.t, .int .i64 d2.node, .int .i64 d2.tag] rfl
            case hB => have h := (HB8.out).size; simp; omega
            case hL => have h := HLL.out; simp; omega
            intro v2 w9 ho hg hat
            have hgq : w8.grownBy w9 (v1 : Value).ownBlock := grown_of_alloc hg
            have hF1 : Hid (Own w9 w6.heap.size 86 v2 (outS tmCmp c (ls.take (k + 1)))) := by
              show Own _ _ _ _ _
              rw [hts.out, outS_first tmCmp c d2 HDN.out hgt.out]
              exact ho
            have hF2 : Hid (Below w6.heap.size w6 w9) := HB8.out.grown hgq HB8.out.size (fun k hk => (HO8.out.lt k hk).1)
            have hF3 : Hid (gtAny tmCmp c (ls.take (k + 1)) = true) := by show _ = _; rw [hts.out, gtAny_snoc, HDN.out, decide_eq_true hgt.out]; rfl
            clear ho hg hgq hat
            go_wp2
            go_roundw
            case rel => exact ⟨k + 1, by omega, by go_num, by rw [hF3.out], hF1.out, hF2.out⟩
            case measure => simp [intOf]; omega
      · have hkl : k = ls.length := by omega
        have HKL := Lib.hid hkl
        clear hkl
        have HDE : Hid (gtAny tmCmp c ls = dn) := by show _ = _; rw [← HDN.out, HKL.out, List.take_length]
        have HOE : Hid (Own wr w6.heap.size 86 u11 (outS tmCmp c ls)) := by
          have h := hO.out
          rw [HKL.out, List.take_length] at h
          exact h
        clear HDN HKL hO
        go_upto_region 18 with fail
        cases dn
        · go_wp2_with (at_builtin; refine hid_stop ?_)
          change wpList _ _ _ _ _ (wr.alloc _)
          refine wpList_app _ w6.heap.size rfl (.tmp 84) (.tmp 86) 24 86 _ 24 rfl Tryz.underlying24 infoT rfl (by decide) (by decide) u11 (outS tmCmp c ls) [c] (some ⟨wr.heap.size, 0, none⟩) 1 rfl rfl (HOE.out.alloc _) ?hR ?hB ?hL ?_
          case hR => exact Rd.new wr 86 c #[.int .i64 c.t, .int .i64 c.node, .int .i64 c.tag] rfl
          case hB => have h := (hB.out).size; simp; omega
          case hL => have h := outS_len tmCmp c ls; simp; omega
          intro v1 w8 ho hg hat
          have hgq : wr.grownBy w8 (u11 : Value).ownBlock := grown_of_alloc hg
          have hb8 : Below w6.heap.size w6 w8 := hB.out.grown hgq hB.out.size (fun k hk => (HOE.out.lt k hk).1)
          have hO8 : Own w8 w6.heap.size 86 v1 (insS tmCmp c ls) := by rw [← outS_end_no tmCmp c HDE.out]; exact ho
          clear ho hg hgq hat c0 c1 c2 hll hB HOE
          have HB8 := Lib.hid hb8
          clear hb8
          obtain ⟨A9, c9, hu9, -, -⟩ := Own.slice (hO8)
          have HO9 := Lib.hid (hO8)
          subst hu9
          have hz9 := bl_below HZ0.out (below_trans HB6.out HB8.out)
          have hm9 := bl_below HM0.out (below_trans HB6.out HB8.out)
          have HB9 := Lib.hid (below_trans HB6.out HB8.out)
          obtain ⟨⟨k0, k1, k2, k3, k4, k5⟩, f0, f1, f2, f3, f4, f5⟩ := blc6 hz9
          obtain ⟨⟨d0, d1, d2, d3, d4, d5, d6, d7, d8, d9, d10, d11, d12, d13⟩, fz⟩ := blc14 hm9
          have hlz := bl_lt hz9
          have hlm := bl_lt hm9
          clear hz9
          go_wp2
          have hfar := bl_far hm9 (p := ⟨w.heap.size, 5, none⟩) (by simp) (.slice A9 (insS tmCmp c ls).length c9)
          have hbl : Below w.heap.size w (w8.setCell ⟨w.heap.size, 5, none⟩ (.slice A9 (insS tmCmp c ls).length c9)) := (below_trans HB0.out HB9.out).setCell (Nat.le_refl _) _
          have hq9 := HS0.out
          have hq8 := HB6.out.size
          exact ret_c Tryz.results91 (w.heap.size + 1) 35 _ _ rfl (put14_all hfar) Tryz.underlying35 rfl sizeMade rfl ⟨_, rfl, by
            rw [HN.out]
            exact ⟨AW, cW, AC, cC, A9, c9, none, 0, rfl, .inl ⟨rfl, rfl⟩, .inl ⟨rfl, rfl⟩, .inr ⟨_, (by first | omega | (show w.heap.size ≤ _; omega)), (HO9.out.far (by show w.heap.size < _; omega) _).put14 (by omega)⟩, ⟨_, Nat.le_refl _, Own.nil _ _ _⟩⟩, put14_below hbl (by omega)⟩
        · have hO8 : Own wr w6.heap.size 86 u11 (insS tmCmp c ls) := by rw [← outS_end_yes tmCmp c HDE.out]; exact HOE.out
          clear c0 c1 c2 hll HOE
          obtain ⟨A9, c9, hu9, -, -⟩ := Own.slice (hO8)
          have HO9 := Lib.hid (hO8)
          subst hu9
          have hz9 := bl_below HZ0.out (below_trans HB6.out hB.out)
          have hm9 := bl_below HM0.out (below_trans HB6.out hB.out)
          have HB9 := Lib.hid (below_trans HB6.out hB.out)
          obtain ⟨⟨k0, k1, k2, k3, k4, k5⟩, f0, f1, f2, f3, f4, f5⟩ := blc6 hz9
          obtain ⟨⟨d0, d1, d2, d3, d4, d5, d6, d7, d8, d9, d10, d11, d12, d13⟩, fz⟩ := blc14 hm9
          have hlz := bl_lt hz9
          have hlm := bl_lt hm9
          clear hz9
          go_wp2
          have hfar := bl_far hm9 (p := ⟨w.heap.size, 5, none⟩) (by simp) (.slice A9 (insS tmCmp c ls).length c9)
          have hbl : Below w.heap.size w (wr.setCell ⟨w.heap.size, 5, none⟩ (.slice A9 (insS tmCmp c ls).length c9)) := (below_trans HB0.out HB9.out).setCell (Nat.le_refl _) _
          have hq9 := HS0.out
          have hq8 := HB6.out.size
          exact ret_c Tryz.results91 (w.heap.size + 1) 35 _ _ rfl (put14_all hfar) Tryz.underlying35 rfl sizeMade rfl ⟨_, rfl, by
            rw [HN.out]
            exact ⟨AW, cW, AC, cC, A9, c9, none, 0, rfl, .inl ⟨rfl, rfl⟩, .inl ⟨rfl, rfl⟩, .inr ⟨_, (by first | omega | (show w.heap.size ≤ _; omega)), (HO9.out.far (by show w.heap.size < _; omega) _).put14 (by omega)⟩, ⟨_, Nat.le_refl _, Own.nil _ _ _⟩⟩, put14_below hbl (by omega)⟩
set_option maxHeartbeats 4000000 in
set_option maxRecDepth 100000 in
theorem RTick_rows (x : Nt) (w : World) (AW AC AT : Option Addr) (cW cC cT : Nat) (hW : Rd w AW x.way) (hC : Rd w AC x.cuts) (hT : Rd w AT x.timers) (hlc : x.cuts.length ≤ 10000000) (hlw : x.way.length ≤ 10000000) (hlt : x.timers.length ≤ 10000000) :
    Calls Tryz.prog 61 #[.agg #[.int .i64 x.nodes, .int .i64 x.now, .int .i64 x.next, .slice AW x.way.length cW, .slice AC x.cuts.length cC, .slice AT x.timers.length cT]] w fun e w' => ∃ v, e = .returned v ∧ MadeR w.heap.size w' x AW cW AC cC AT cT v (formR x (tickM x)) ∧ Below w.heap.size w w' := by
  obtain ⟨w0, hw0⟩ : ∃ w0, w0 = (w.alloc (.cells #[.int .i64 x.nodes, .int .i64 x.now, .int .i64 x.next, .slice AW x.way.length cW, .slice AC x.cuts.length cC, .slice AT x.timers.length cT] 26)).alloc (.cells #[.int .i64 0, .int .i64 0, .int .i64 0, .slice none 0 0, .slice none 0 0, .slice none 0 0, .int .i64 0, .int .i64 0, .int .i64 0, .int .i64 0, .int .i64 0, .string ⟨#[]⟩, .slice none 0 0, .int .i64 0] 35) := ⟨_, rfl⟩
  obtain ⟨hb0, hz0, hm0, hs0⟩ := made_start hw0
  have HV : Hid (∀ W, Below w0.heap.size w0 W → NetV W (.agg #[.int .i64 x.nodes, .int .i64 x.now, .int .i64 x.next, .slice AW x.way.length cW, .slice AC x.cuts.length cC, .slice AT x.timers.length cT]) x) := fun W hb => ⟨AW, cW, AC, cC, AT, cT, rfl, hW.below (below_trans hb0 hb), hC.below (below_trans hb0 hb), hT.below (below_trans hb0 hb)⟩
  have his := fun (v : Value) (w : World) (hV : NetV w v x) => RIs_any x v w hV hlc hlw hlt
  have HB0 := Lib.hid hb0
  have HZ0 := Lib.hid hz0
  have HM0 := Lib.hid hm0
  have HS0 := Lib.hid hs0
  have HW0 := Lib.hid hw0
  have HC := Lib.hid (hC.below hb0)
  have HT := Lib.hid (hT.below hb0)
  have HWW := Lib.hid hW
  have HTW := Lib.hid hT
  have HCW := Lib.hid hC
  clear hb0 hz0 hm0 hs0 hw0 hW hC hT
  cases hc : checkB x
  · rw [hc] at his
    have HIS := Lib.hid his
    have HN : Hid (formR x (tickM x) = errR 2) := if_pos hc
    clear his hc
    go_enter Tryz.func61, Tryz.ntmps61
    go_wp2_with fail
    rw [← HW0.out]
    clear HW0
    refine calls_below (HIS.out _ _ (HV.out _ (Below.refl _ _))) ?_
    intro w1 hb1
    have hz1 := bl_below HZ0.out hb1
    obtain ⟨⟨k0, k1, k2, k3, k4, k5⟩, -⟩ := blc6 hz1
    have hlz := bl_lt hz1
    go_wp2_with fail
    refine calls_below (Rfailed_any 2 _) ?_
    intro w9 hb9
    have hb9' := below_trans hb1 hb9
    have hm9 := bl_below HM0.out hb9'
    have hl9 := bl_lt hm9
    obtain ⟨⟨d0, d1, d2, d3, d4, d5, d6, d7, d8, d9, d10, d11, d12, d13⟩, fz⟩ := blc14 hm9
    go_wp2
    exact ret_c Tryz.results61 (w.heap.size + 1) 35 _ _ rfl (put14_all hm9) Tryz.underlying35 rfl sizeMade rfl ⟨_, rfl, by rw [HN.out]; exact MadeR_err 2, put14_below (below_trans HB0.out hb9') (by omega)⟩
  rw [hc] at his
  have HIS := Lib.hid his
  have HF : Hid (formR x (tickM x) = tickM x) := if_neg (by rw [hc]; decide)
  have HOK : Hid (Ok x) := (ok_iff x).1 hc
  clear his hc
  have ht0 : 0 ≤ x.now := HOK.out.t0
  have ht1 : x.now ≤ 1099511627776 := HOK.out.t1
  by_cases hlim : x.now = 1099511627776
  · have d1 : (x.now == 1099511627776) = true := beq_iff_eq.2 hlim
    have HN : Hid (formR x (tickM x) = errR 3) := HF.out.trans (if_pos hlim)
    clear hlim
    go_enter Tryz.func61, Tryz.ntmps61
    go_wp2_with fail
    rw [← HW0.out]
    clear HW0
    refine calls_below (HIS.out _ _ (HV.out _ (Below.refl _ _))) ?_
    intro w1 hb1
    have hz1 := bl_below HZ0.out hb1
    obtain ⟨⟨k0, k1, k2, k3, k4, k5⟩, -⟩ := blc6 hz1
    have hlz := bl_lt hz1
    go_wp2_with fail
    refine calls_below (Rfailed_any 3 _) ?_
    intro w9 hb9
    have hb9' := below_trans hb1 hb9
    have hm9 := bl_below HM0.out hb9'
    have hl9 := bl_lt hm9
    obtain ⟨⟨d0, d1, d2, d3, d4, d5, d6, d7, d8, d9, d10, d11, d12, d13⟩, fz⟩ := blc14 hm9
    go_wp2
    exact ret_c Tryz.results61 (w.heap.size + 1) 35 _ _ rfl (put14_all hm9) Tryz.underlying35 rfl sizeMade rfl ⟨_, rfl, by rw [HN.out]; exact MadeR_err 3, put14_below (below_trans HB0.out hb9') (by omega)⟩
  have d1 : (x.now == 1099511627776) = false := beq_eq_false_iff_ne.2 hlim
  have HN : Hid (formR x (tickM x) = ⟨{ x with now := x.now + 1, timers := stayF x.now x.timers }, 0, zLt, fireF x.now x.timers, 0⟩) := HF.out.trans (if_neg hlim)
  clear hlim
  go_enter Tryz.func61, Tryz.ntmps61
  go_wp2_with fail
  rw [← HW0.out]
  clear HW0
  refine calls_below (HIS.out _ _ (HV.out _ (Below.refl _ _))) ?_
  intro w1 hb1
  have hz1 := bl_below HZ0.out hb1
  obtain ⟨⟨k0, k1, k2, k3, k4, k5⟩, f0, f1, f2, f3, f4, f5⟩ := blc6 hz1
  have hlz := bl_lt hz1
  go_upto_block 0 with fail
  generalize hw2 : World.setCell _ _ _ = w2
  have hz2 : w2.heap[w.heap.size]? = some (.cells #[.int .i64 x.nodes, .int .i64 (x.now + 1), .int .i64 x.next, .slice AW x.way.length cW, .slice AC x.cuts.length cC, .slice AT x.timers.length cT] 26 (0, 0)) := by rw [← hw2]; simpa using bl_set hz1 1 (.int .i64 (x.now + 1))
  have hm2 : w2.heap[w.heap.size + 1]? = some (.cells #[.int .i64 0, .int .i64 0, .int .i64 0, .slice none 0 0, .slice none 0 0, .slice none 0 0, .int .i64 0, .int .i64 0, .int .i64 0, .int .i64 0, .int .i64 0, .string ⟨#[]⟩, .slice none 0 0, .int .i64 0] 35 (0, 0)) := by rw [← hw2]; exact bl_far (bl_below HM0.out hb1) (by simp) _
  have hb2 : Below w.heap.size w w2 := by rw [← hw2]; exact (below_trans HB0.out hb1).setCell (Nat.le_refl _) _
  have hs2 : w.heap.size + 1 < w2.heap.size := bl_lt hm2
  have HZ2 := Lib.hid hz2
  have HM2 := Lib.hid hm2
  have HB2 := Lib.hid hb2
  have HS2 := Lib.hid hs2
  have HTT := Lib.hid (HTW.out.below hb2)
  clear hw2 hz2 hm2 hb2 hs2 hz1 k0 k1 k2 k3 k4 k5 f0 f1 f2 f3 f4 f5 hlz hb1 HZ0 HM0 HS0 HB0 HV HC HT d1
  go_wp2
  go_loopw [3, 4, 5] (fun p q i wr => ∃ k : Nat, k ≤ x.timers.length ∧ i = .int .i64 k ∧ Hid (Own wr w2.heap.size 86 p (fireF x.now (x.timers.take k))) ∧ Hid (Own wr w2.heap.size 86 q (stayF x.now (x.timers.take k))) ∧ Hid (neR p q) ∧ Hid (Below w2.heap.size w2 wr)) (fun _ _ i _ => x.timers.length - (intOf i).toNat)
  case atStart => exact ⟨0, Nat.zero_le _, rfl, (Own.nil _ _ _ : Own w2 w2.heap.size 86 (.slice none 0 0) ([] : List Tm)), (Own.nil _ _ _ : Own w2 w2.heap.size 86 (.slice none 0 0) ([] : List Tm)), .inl rfl, Below.refl _ _⟩
  case round =>
    obtain ⟨k, hk, rfl, hO3, hO4, HNE, hB⟩ := hrel
    have hz1 := bl_below HZ2.out hB.out
    obtain ⟨⟨k0, k1, k2, k3, k4, k5⟩, -⟩ := blc6 hz1
    have hlz := bl_lt hz1
    clear hz1
    by_cases hlk : k < x.timers.length
    · obtain ⟨bb, off, d, rfl, hx, e0, e1, e2⟩ := (HTT.out.below hB.out).tm k hlk
      have hbt : bb < wr.heap.size := World.block_lt_of_cell? wr _ e0
      have hts := Lib.hid (take_snoc' hx)
      go_upto_region 11 with fail
      go_cut [33] (fun s wx => s = .bool (d.t == x.now + 1) ∧ Hid (Below wr.heap.size wr wx))
      case first =>
        go_quiet (fail)
        go_wp2
        go_meet
        case rel => exact ⟨rfl, below_drewN (Below.refl _ _) _⟩
      case rest =>
        obtain ⟨rfl, hb7⟩ := hcut
        obtain ⟨w7, hw7⟩ : ∃ w7, w7 = wc := ⟨_, rfl⟩
        rw [← hw7] at hb7 ⊢
        clear hw7
        have hB7 : Below w2.heap.size w2 w7 := below_trans hB.out hb7.out
        have HB7 := Lib.hid hB7
        have Hu3 : Hid (Own w7 w2.heap.size 86 u3 (fireF x.now (x.timers.take k))) := hO3.out.below hb7.out
        have Hu4 : Hid (Own w7 w2.heap.size 86 u4 (stayF x.now (x.timers.take k))) := hO4.out.below hb7.out
        clear k0 k1 k2 k3 k4 k5 hlz
        obtain ⟨⟨k0, k1, k2, k3, k4, k5⟩, -⟩ := blc6 (bl_below HZ2.out hB7)
        have hlz := bl_lt (bl_below HZ2.out hB7)
        replace e0 := cell_below hb7.out e0
        replace e1 := cell_below hb7.out e1
        replace e2 := cell_below hb7.out e2
        replace hbt : bb < w7.heap.size := World.block_lt_of_cell? w7 _ e0
        clear hB7 hO3 hO4 hb7 hB
        cases q1 : (d.t == x.now + 1)
        · have hne : ¬ d.t = x.now + 1 := beq_eq_false_iff_ne.1 q1
          have hlfire : Hid (fireF x.now (x.timers.take (k + 1)) = fireF x.now (x.timers.take k)) := by
            show _ = _
            rw [hts.out, fireF, List.filter_append]; simp [hne, fireF]
          have hlstay : Hid (stayF x.now (x.timers.take (k + 1)) = stayF x.now (x.timers.take k) ++ [d]) := by
            show _ = _
            rw [hts.out, stayF, List.filter_append]; simp [hne, stayF]
          clear hne
          go_wp2_with (at_builtin; refine hid_stop ?_)
          change wpList _ _ _ _ _ (w7.alloc _)
          refine wpList_app _ w2.heap.size rfl (.tmp 42) (.tmp 48) 24 86 _ 24 rfl Tryz.underlying24 infoT rfl (by decide) (by decide) u4 (stayF x.now (x.timers.take k)) [d] (some ⟨w7.heap.size, 0, none⟩) 1 rfl rfl (Hu4.out.alloc _) ?hR ?hB ?hL ?_
          case hR => exact Rd.new w7 86 d #[.int .i64 d.t, .int .i64 d.node, .int .i64 d.tag] rfl
          case hB => have h := (HB7.out).size; simp; omega
          case hL => have h := filt_len (x.timers.take k) x.now; have h2 : (x.timers.take k).length ≤ k := List.length_take_le _ _; simp; omega
          intro v1 w8 ho hg hat
          have hgq : w7.grownBy w8 (u4 : Value).ownBlock := grown_of_alloc hg
          have hF1 : Hid (Own w8 w2.heap.size 86 v1 (stayF x.now (x.timers.take (k + 1)))) := by
            show Own _ _ _ _ _
            rw [hlstay.out]
            exact ho
          have hF2 : Hid (Below w2.heap.size w2 w8) := HB7.out.grown hgq HB7.out.size (fun k hk => (Hu4.out.lt k hk).1)
          have hF3 : Hid (Own w8 w2.heap.size 86 u3 (fireF x.now (x.timers.take (k + 1)))) := by
            show Own _ _ _ _ _
            rw [hlfire.out]
            exact Hu3.out.kept hgq (HNE.out)
          have hF4 : Hid (neR v1 u3) := by
            show neR _ _
            refine neR_new ?_ hat (fun g hg => (Hu3.out.lt g hg).2)
            exact ne_flip HNE.out
          clear ho hg hgq hat
          go_wp2
          go_roundw
          case rel => exact ⟨k + 1, by omega, by go_num, hF3.out, hF1.out, ne_flip hF4.out, hF2.out⟩
          case measure => simp [intOf]; omega
        · have hne : d.t = x.now + 1 := beq_iff_eq.1 q1
          have hlfire : Hid (fireF x.now (x.timers.take (k + 1)) = fireF x.now (x.timers.take k) ++ [d]) := by
            show _ = _
            rw [hts.out, fireF, List.filter_append]; simp [hne, fireF]
          have hlstay : Hid (stayF x.now (x.timers.take (k + 1)) = stayF x.now (x.timers.take k)) := by
            show _ = _
            rw [hts.out, stayF, List.filter_append]; simp [hne, stayF]
          clear hne
          go_wp2_with (at_builtin; refine hid_stop ?_)
          change wpList _ _ _ _ _ (w7.alloc _)
          refine wpList_app _ w2.heap.size rfl (.tmp 34) (.tmp 40) 24 86 _ 24 rfl Tryz.underlying24 infoT rfl (by decide) (by decide) u3 (fireF x.now (x.timers.take k)) [d] (some ⟨w7.heap.size, 0, none⟩) 1 rfl rfl (Hu3.out.alloc _) ?hR ?hB ?hL ?_
          case hR => exact Rd.new w7 86 d #[.int .i64 d.t, .int .i64 d.node, .int .i64 d.tag] rfl
          case hB => have h := (HB7.out).size; simp; omega
          case hL => have h := filt_len (x.timers.take k) x.now; have h2 : (x.timers.take k).length ≤ k := List.length_take_le _ _; simp; omega
          intro v1 w8 ho hg hat
          have hgq : w7.grownBy w8 (u3 : Value).ownBlock := grown_of_alloc hg
          have hF1 : Hid (Own w8 w2.heap.size 86 v1 (fireF x.now (x.timers.take (k + 1)))) := by
            show Own _ _ _ _ _
            rw [hlfire.out]
            exact ho
          have hF2 : Hid (Below w2.heap.size w2 w8) := HB7.out.grown hgq HB7.out.size (fun k hk => (Hu3.out.lt k hk).1)
          have hF3 : Hid (Own w8 w2.heap.size 86 u4 (stayF x.now (x.timers.take (k + 1)))) := by
            show Own _ _ _ _ _
            rw [hlstay.out]
            exact Hu4.out.kept hgq (ne_flip HNE.out)
          have hF4 : Hid (neR v1 u4) := by
            show neR _ _
            refine neR_new ?_ hat (fun g hg => (Hu4.out.lt g hg).2)
            exact HNE.out
          clear ho hg hgq hat
          go_wp2
          go_roundw
          case rel => exact ⟨k + 1, by omega, by go_num, hF1.out, hF3.out, hF4.out, hF2.out⟩
          case measure => simp [intOf]; omega
    · have hkl : k = x.timers.length := by omega
      have HKL := Lib.hid hkl
      clear hkl
      have h3 : Own wr w2.heap.size 86 u3 (fireF x.now x.timers) := by
        have h := hO3.out
        rw [HKL.out, List.take_length] at h
        exact h
      have h4 : Own wr w2.heap.size 86 u4 (stayF x.now x.timers) := by
        have h := hO4.out
        rw [HKL.out, List.take_length] at h
        exact h
      obtain ⟨A3, c3, hu3, -, -⟩ := Own.slice h3
      obtain ⟨A4, c4, hu4, -, -⟩ := Own.slice h4
      have H3 := Lib.hid h3
      have H4 := Lib.hid h4
      subst hu3 hu4
      clear h3 h4 hO3 hO4 HKL k0 k1 k2 k3 k4 k5 hlz
      have hz9 := bl_below HZ2.out hB.out
      have hm9 := bl_below HM2.out hB.out
      obtain ⟨⟨k0, k1, k2, k3, k4, k5⟩, f0, f1, f2, f3, f4, f5⟩ := blc6 hz9
      obtain ⟨⟨d0, d1, d2, d3, d4, d5, d6, d7, d8, d9, d10, d11, d12, d13⟩, fz⟩ := blc14 hm9
      have hlz := bl_lt hz9
      have hlm := bl_lt hm9
      clear hz9
      go_wp2
      have hfar := bl_far hm9 (p := ⟨w.heap.size, 5, none⟩) (by simp) (.slice A4 (stayF x.now x.timers).length c4)
      have hbl : Below w.heap.size w (wr.setCell ⟨w.heap.size, 5, none⟩ (.slice A4 (stayF x.now x.timers).length c4)) := (HB2.out.trans (hB.out.mono HB2.out.size)).setCell (Nat.le_refl _) _
      have hq9 := HS2.out
      exact ret_c Tryz.results61 (w.heap.size + 1) 35 _ _ rfl (put14_all hfar) Tryz.underlying35 rfl sizeMade rfl ⟨_, rfl, by
        rw [HN.out]
        exact ⟨AW, cW, AC, cC, A4, c4, A3, c3, rfl, .inl ⟨rfl, rfl⟩, .inl ⟨rfl, rfl⟩, .inr ⟨_, (by first | omega | (show w.heap.size ≤ _; omega)), (H4.out.far (by show w.heap.size < _; omega) _).put14 (by omega)⟩, ⟨_, (by first | omega | (show w.heap.size ≤ _; omega)), (H3.out.far (by show w.heap.size < _; omega) _).put14 (by omega)⟩⟩, put14_below hbl (by omega)⟩
end Go.Proofs.YthlbmcfliejdiaaGreat
end

section
set_option linter.unusedVariables false
set_option linter.unusedSimpArgs false
namespace Go.Proofs.YthlbmcfliejdiaaGreat
open Go.RowKit

set_option maxHeartbeats 4000000 in
set_option maxRecDepth 100000 in
theorem RLose_rows (x : Nt) (i : Int) (w : World) (AW AC AT : Option Addr) (cW cC cT : Nat) (hW : Rd w AW x.way) (hC : Rd w AC x.cuts) (hT : Rd w AT x.timers) (hcap : x.way.length ≤ cW) (hlc : x.cuts.length ≤ 10000000) (hlw : x.way.length ≤ 10000000) (hlt : x.timers.length ≤ 10000000) :
    Calls Tryz.prog 13 #[.agg #[.int .i64 x.nodes, .int .i64 x.now, .int .i64 x.next, .slice AW x.way.length cW, .slice AC x.cuts.length cC, .slice AT x.timers.length cT], .int .i64 i] w fun e w' => ∃ v, e = .returned v ∧ MadeR w.heap.size w' x AW cW AC cC AT cT v (formR x (loseM x i)) ∧ Below w.heap.size w w' := by
  obtain ⟨w0, hw0⟩ : ∃ w0, w0 = (w.alloc (.cells #[.int .i64 x.nodes, .int .i64 x.now, .int .i64 x.next, .slice AW x.way.length cW, .slice AC x.cuts.length cC, .slice AT x.timers.length cT] 26)).alloc (.cells #[.int .i64 0, .int .i64 0, .int .i64 0, .slice none 0 0, .slice none 0 0, .slice none 0 0, .int .i64 0, .int .i64 0, .int .i64 0, .int .i64 0, .int .i64 0, .string ⟨#[]⟩, .slice none 0 0, .int .i64 0] 35) := ⟨_, rfl⟩
  obtain ⟨hb0, hz0, hm0, hs0⟩ := made_start hw0
  have HV : Hid (∀ W, Below w0.heap.size w0 W → NetV W (.agg #[.int .i64 x.nodes, .int .i64 x.now, .int .i64 x.next, .slice AW x.way.length cW, .slice AC x.cuts.length cC, .slice AT x.timers.length cT]) x) := fun W hb => ⟨AW, cW, AC, cC, AT, cT, rfl, hW.below (below_trans hb0 hb), hC.below (below_trans hb0 hb), hT.below (below_trans hb0 hb)⟩
  have his := fun (v : Value) (w : World) (hV : NetV w v x) => RIs_any x v w hV hlc hlw hlt
  have HB0 := Lib.hid hb0
  have HZ0 := Lib.hid hz0
  have HM0 := Lib.hid hm0
  have HS0 := Lib.hid hs0
  have HW0 := Lib.hid hw0
  have HC := Lib.hid (hC.below hb0)
  have HT := Lib.hid (hT.below hb0)
  have HWW := Lib.hid hW
  have HTW := Lib.hid hT
  have HCW := Lib.hid hC
  clear hb0 hz0 hm0 hs0 hw0 hW hC hT
  cases hc : checkB x
  · rw [hc] at his
    have HIS := Lib.hid his
    have HN : Hid (formR x (loseM x i) = errR 2) := if_pos hc
    clear his hc
    go_enter Tryz.func13, Tryz.ntmps13
    go_wp2_with fail
    rw [← HW0.out]
    clear HW0
    refine calls_below (HIS.out _ _ (HV.out _ (Below.refl _ _))) ?_
    intro w1 hb1
    have hz1 := bl_below HZ0.out hb1
    obtain ⟨⟨k0, k1, k2, k3, k4, k5⟩, -⟩ := blc6 hz1
    have hlz := bl_lt hz1
    go_wp2_with fail
    refine calls_below (Rfailed_any 2 _) ?_
    intro w9 hb9
    have hb9' := below_trans hb1 hb9
    have hm9 := bl_below HM0.out hb9'
    have hl9 := bl_lt hm9
    obtain ⟨⟨d0, d1, d2, d3, d4, d5, d6, d7, d8, d9, d10, d11, d12, d13⟩, fz⟩ := blc14 hm9
    go_wp2
    exact ret_c Tryz.results13 (w.heap.size + 1) 35 _ _ rfl (put14_all hm9) Tryz.underlying35 rfl sizeMade rfl ⟨_, rfl, by rw [HN.out]; exact MadeR_err 2, put14_below (below_trans HB0.out hb9') (by omega)⟩
  rw [hc] at his
  have HIS := Lib.hid his
  have HF : Hid (formR x (loseM x i) = loseM x i) := if_neg (by rw [hc]; decide)
  have HOK : Hid (Ok x) := (ok_iff x).1 hc
  clear his hc
  have hhas := fun (v : Value) (w : World) (hV : NetV w v x) => Rhas_any x i v w hV
  cases hh : hasB x.way.length i
  · rw [hh] at hhas
    have hHas := Lib.hid hhas
    have HN : Hid (formR x (loseM x i) = errR 4) := HF.out.trans (if_pos hh)
    clear hhas hh
    go_enter Tryz.func13, Tryz.ntmps13
    go_wp2_with fail
    rw [← HW0.out]
    clear HW0
    refine calls_below (HIS.out _ _ (HV.out _ (Below.refl _ _))) ?_
    intro w1 hb1
    have hz1 := bl_below HZ0.out hb1
    obtain ⟨⟨k0, k1, k2, k3, k4, k5⟩, -⟩ := blc6 hz1
    have hlz := bl_lt hz1
    go_wp2_with fail
    refine calls_below (hHas.out _ _ (HV.out _ hb1)) ?_
    intro w2 hb2
    replace hb2 := below_trans hb1 hb2
    clear hz1 k0 k1 k2 k3 k4 k5 hlz
    have hz1 := bl_below HZ0.out hb2
    obtain ⟨⟨k0, k1, k2, k3, k4, k5⟩, -⟩ := blc6 hz1
    have hlz := bl_lt hz1
    go_wp2_with fail
    refine calls_below (Rfailed_any 4 _) ?_
    intro w9 hb9
    have hb9' := below_trans hb2 hb9
    have hm9 := bl_below HM0.out hb9'
    have hl9 := bl_lt hm9
    obtain ⟨⟨d0, d1, d2, d3, d4, d5, d6, d7, d8, d9, d10, d11, d12, d13⟩, fz⟩ := blc14 hm9
    go_wp2
    exact ret_c Tryz.results13 (w.heap.size + 1) 35 _ _ rfl (put14_all hm9) Tryz.underlying35 rfl sizeMade rfl ⟨_, rfl, by rw [HN.out]; exact MadeR_err 4, put14_below (below_trans HB0.out hb9') (by omega)⟩
  rw [hh] at hhas
  have hHas := Lib.hid hhas
  obtain ⟨m, hm, rfl⟩ : ∃ m : Nat, m < x.way.length ∧ i = (m : Int) := by
    have h := hh
    simp only [hasB, Bool.and_eq_true, decide_eq_true_eq] at h
    obtain ⟨m, rfl⟩ := Int.eq_ofNat_of_zero_le h.1
    exact ⟨m, by omega, rfl⟩
  obtain ⟨bb, off, l, rfl, hxl, c0, c1, c2, c3, c4⟩ := HWW.out.lt m hm
  have hll : x.way[m]? = some l := hxl.out
  have hml : ((m : Int)).toNat = m := rfl
  have HCL : Hid (∀ W, Below w0.heap.size w0 W → W.cell? ⟨bb, off + m * 5, none⟩ = some (.int .i64 l.id) ∧ W.cell? ⟨bb, off + m * 5 + 1, none⟩ = some (.int .i64 l.fr) ∧ W.cell? ⟨bb, off + m * 5 + 2, none⟩ = some (.int .i64 l.to) ∧ W.cell? ⟨bb, off + m * 5 + 3, none⟩ = some (.int .i64 l.rd) ∧ W.cell? ⟨bb, off + m * 5 + 4, none⟩ = some (.string l.data)) := fun W hb =>
    ⟨cell_below (below_trans HB0.out hb) c0, cell_below (below_trans HB0.out hb) c1, cell_below (below_trans HB0.out hb) c2, cell_below (below_trans HB0.out hb) c3, cell_below (below_trans HB0.out hb) c4⟩
  clear hhas hxl c0 c1 c2 c3 c4
  have HN : Hid (formR x (loseM x (m : Int)) = ⟨{ x with way := x.way.eraseIdx m }, 0, l, [], 0⟩) := HF.out.trans (by unfold loseM; rw [if_neg (by rw [hh]; decide), hml, hll])
  clear hh hll hml
  go_enter Tryz.func13, Tryz.ntmps13
  go_wp2_with fail
  rw [← HW0.out]
  clear HW0
  refine calls_below (HIS.out _ _ (HV.out _ (Below.refl _ _))) ?_
  intro w1 hb1
  have hz1 := bl_below HZ0.out hb1
  obtain ⟨⟨k0, k1, k2, k3, k4, k5⟩, -⟩ := blc6 hz1
  have hlz := bl_lt hz1
  go_wp2_with fail
  refine calls_below (hHas.out _ _ (HV.out _ hb1)) ?_
  intro w2 hb2
  replace hb2 := below_trans hb1 hb2
  clear hz1 k0 k1 k2 k3 k4 k5 hlz
  have hz1 := bl_below HZ0.out hb2
  obtain ⟨⟨k0, k1, k2, k3, k4, k5⟩, -⟩ := blc6 hz1
  have hlz := bl_lt hz1
  go_upto_region 5 with fail
  obtain ⟨c0, c1, c2, c3, c4⟩ := HCL.out _ hb2
  have hbb := World.block_lt_of_cell? _ _ c0
  refine wp_mixT [(0, true), (1, true), (3, true), (4, true), (5, true), (6, true), (7, true), (2, false)] 8 (fun w' => Below w2.heap.size w2 w')
    (by kernel_rfl) (by kernel_rfl) (by kernel_rfl) (by kernel_rfl) (by kernel_rfl) (fun d _ _ _ _ h => by cases d <;> exact h) (Below.refl _ _).drew ?_
  simp only [pick, List.map_cons, List.map_nil, List.getD_cons_zero, List.getD_cons_succ, List.drop_succ_cons, List.drop_zero]
  iterate 7
    apply mix_take
    case hw => rfl
    case hy => intro W hW; obtain ⟨hwc, -⟩ := bcell hW; go_simp; try rfl
    simp only [Act.put, List.setIfInBounds_toArray, List.set_cons_zero, List.set_cons_succ]
  refine mix_do fun K' hK' => ?_
  go_wp2_with fail
  refine (Rwithout_any x m (some ⟨bb, off, none⟩) AC AT cW cC cT _ (HWW.out.below ((below_trans HB0.out hb2).drew)) hcap hm hlw).mono ?_
  rintro e w7 ⟨A, c, rfl, hO7, hc7, hb7⟩
  have hb7' : Below w2.heap.size w2 w7 := below_trans (Below.refl _ w2).drew hb7
  go_wp2
  refine hK' _ _ hb7' (mix_nil ?_)
  clear hK' K'
  have HB7 := Lib.hid (below_trans hb2 hb7')
  have HO7 := Lib.hid hO7
  have HC7 := Lib.hid hc7
  have hm9 := bl_below HM0.out HB7.out
  have hl9 := bl_lt hm9
  have HSZ : Hid (w.heap.size + 2 ≤ w2.heap.size) := by show _ ≤ _; have h1 := HS0.out; have h2 := (hb2).size; omega
  obtain ⟨⟨d0, d1, d2, d3, d4, d5, d6, d7, d8, d9, d10, d11, d12, d13⟩, fz⟩ := blc14 hm9
  clear hO7 hc7 hb7 hb7' k0 k1 k2 k3 k4 k5 hlz hz1 c0 c1 c2 c3 c4
  go_wp2
  have hbl : Below w.heap.size w w7 := below_trans HB0.out HB7.out
  have hq := HSZ.out
  exact ret_c Tryz.results13 (w.heap.size + 1) 35 _ _ rfl (put14_all hm9) Tryz.underlying35 rfl sizeMade rfl ⟨_, rfl, by
    rw [HN.out]
    exact ⟨A, c, AC, cC, AT, cT, none, 0, rfl, .inr ⟨_, (by show w.heap.size ≤ w2.heap.size; omega), Own.put14 HO7.out (by first | omega | (show _ < w2.heap.size; omega))⟩, .inl ⟨rfl, rfl⟩, .inl ⟨rfl, rfl⟩, ⟨_, Nat.le_refl _, Own.nil _ _ _⟩⟩, put14_below hbl (by omega)⟩
set_option maxHeartbeats 4000000 in
set_option maxRecDepth 100000 in
theorem RDeliver_rows (x : Nt) (i : Int) (w : World) (AW AC AT : Option Addr) (cW cC cT : Nat) (hW : Rd w AW x.way) (hC : Rd w AC x.cuts) (hT : Rd w AT x.timers) (hcap : x.way.length ≤ cW) (hlc : x.cuts.length ≤ 10000000) (hlw : x.way.length ≤ 10000000) (hlt : x.timers.length ≤ 10000000) :
    Calls Tryz.prog 11 #[.agg #[.int .i64 x.nodes, .int .i64 x.now, .int .i64 x.next, .slice AW x.way.length cW, .slice AC x.cuts.length cC, .slice AT x.timers.length cT], .int .i64 i] w fun e w' => ∃ v, e = .returned v ∧ MadeR w.heap.size w' x AW cW AC cC AT cT v (formR x (deliverM x i)) ∧ Below w.heap.size w w' := by
  obtain ⟨w0, hw0⟩ : ∃ w0, w0 = (w.alloc (.cells #[.int .i64 x.nodes, .int .i64 x.now, .int .i64 x.next, .slice AW x.way.length cW, .slice AC x.cuts.length cC, .slice AT x.timers.length cT] 26)).alloc (.cells #[.int .i64 0, .int .i64 0, .int .i64 0, .slice none 0 0, .slice none 0 0, .slice none 0 0, .int .i64 0, .int .i64 0, .int .i64 0, .int .i64 0, .int .i64 0, .string ⟨#[]⟩, .slice none 0 0, .int .i64 0] 35) := ⟨_, rfl⟩
  obtain ⟨hb0, hz0, hm0, hs0⟩ := made_start hw0
  have HV : Hid (∀ W, Below w0.heap.size w0 W → NetV W (.agg #[.int .i64 x.nodes, .int .i64 x.now, .int .i64 x.next, .slice AW x.way.length cW, .slice AC x.cuts.length cC, .slice AT x.timers.length cT]) x) := fun W hb => ⟨AW, cW, AC, cC, AT, cT, rfl, hW.below (below_trans hb0 hb), hC.below (below_trans hb0 hb), hT.below (below_trans hb0 hb)⟩
  have his := fun (v : Value) (w : World) (hV : NetV w v x) => RIs_any x v w hV hlc hlw hlt
  have HB0 := Lib.hid hb0
  have HZ0 := Lib.hid hz0
  have HM0 := Lib.hid hm0
  have HS0 := Lib.hid hs0
  have HW0 := Lib.hid hw0
  have HC := Lib.hid (hC.below hb0)
  have HT := Lib.hid (hT.below hb0)
  have HWW := Lib.hid hW
  have HTW := Lib.hid hT
  have HCW := Lib.hid hC
  clear hb0 hz0 hm0 hs0 hw0 hW hC hT
  cases hc : checkB x
  · rw [hc] at his
    have HIS := Lib.hid his
    have HN : Hid (formR x (deliverM x i) = errR 2) := if_pos hc
    clear his hc
    go_enter Tryz.func11, Tryz.ntmps11
    go_wp2_with fail
    rw [← HW0.out]
    clear HW0
    refine calls_below (HIS.out _ _ (HV.out _ (Below.refl _ _))) ?_
    intro w1 hb1
    have hz1 := bl_below HZ0.out hb1
    obtain ⟨⟨k0, k1, k2, k3, k4, k5⟩, -⟩ := blc6 hz1
    have hlz := bl_lt hz1
    go_wp2_with fail
    refine calls_below (Rfailed_any 2 _) ?_
    intro w9 hb9
    have hb9' := below_trans hb1 hb9
    have hm9 := bl_below HM0.out hb9'
    have hl9 := bl_lt hm9
    obtain ⟨⟨d0, d1, d2, d3, d4, d5, d6, d7, d8, d9, d10, d11, d12, d13⟩, fz⟩ := blc14 hm9
    go_wp2
    exact ret_c Tryz.results11 (w.heap.size + 1) 35 _ _ rfl (put14_all hm9) Tryz.underlying35 rfl sizeMade rfl ⟨_, rfl, by rw [HN.out]; exact MadeR_err 2, put14_below (below_trans HB0.out hb9') (by omega)⟩
  rw [hc] at his
  have HIS := Lib.hid his
  have HF : Hid (formR x (deliverM x i) = deliverM x i) := if_neg (by rw [hc]; decide)
  have HOK : Hid (Ok x) := (ok_iff x).1 hc
  clear his hc
  have hhas := fun (v : Value) (w : World) (hV : NetV w v x) => Rhas_any x i v w hV
  cases hh : hasB x.way.length i
  · rw [hh] at hhas
    have hHas := Lib.hid hhas
    have HN : Hid (formR x (deliverM x i) = errR 4) := HF.out.trans (if_pos hh)
    clear hhas hh
    go_enter Tryz.func11, Tryz.ntmps11
    go_wp2_with fail
    rw [← HW0.out]
    clear HW0
    refine calls_below (HIS.out _ _ (HV.out _ (Below.refl _ _))) ?_
    intro w1 hb1
    have hz1 := bl_below HZ0.out hb1
    obtain ⟨⟨k0, k1, k2, k3, k4, k5⟩, -⟩ := blc6 hz1
    have hlz := bl_lt hz1
    go_wp2_with fail
    refine calls_below (hHas.out _ _ (HV.out _ hb1)) ?_
    intro w2 hb2
    replace hb2 := below_trans hb1 hb2
    clear hz1 k0 k1 k2 k3 k4 k5 hlz
    have hz1 := bl_below HZ0.out hb2
    obtain ⟨⟨k0, k1, k2, k3, k4, k5⟩, -⟩ := blc6 hz1
    have hlz := bl_lt hz1
    go_wp2_with fail
    refine calls_below (Rfailed_any 4 _) ?_
    intro w9 hb9
    have hb9' := below_trans hb2 hb9
    have hm9 := bl_below HM0.out hb9'
    have hl9 := bl_lt hm9
    obtain ⟨⟨d0, d1, d2, d3, d4, d5, d6, d7, d8, d9, d10, d11, d12, d13⟩, fz⟩ := blc14 hm9
    go_wp2
    exact ret_c Tryz.results11 (w.heap.size + 1) 35 _ _ rfl (put14_all hm9) Tryz.underlying35 rfl sizeMade rfl ⟨_, rfl, by rw [HN.out]; exact MadeR_err 4, put14_below (below_trans HB0.out hb9') (by omega)⟩
  rw [hh] at hhas
  have hHas := Lib.hid hhas
  obtain ⟨m, hm, rfl⟩ : ∃ m : Nat, m < x.way.length ∧ i = (m : Int) := by
    have h := hh
    simp only [hasB, Bool.and_eq_true, decide_eq_true_eq] at h
    obtain ⟨m, rfl⟩ := Int.eq_ofNat_of_zero_le h.1
    exact ⟨m, by omega, rfl⟩
  obtain ⟨bb, off, l, rfl, hxl, c0, c1, c2, c3, c4⟩ := HWW.out.lt m hm
  have hll : x.way[m]? = some l := hxl.out
  have hml : ((m : Int)).toNat = m := rfl
  have HCL : Hid (∀ W, Below w0.heap.size w0 W → W.cell? ⟨bb, off + m * 5, none⟩ = some (.int .i64 l.id) ∧ W.cell? ⟨bb, off + m * 5 + 1, none⟩ = some (.int .i64 l.fr) ∧ W.cell? ⟨bb, off + m * 5 + 2, none⟩ = some (.int .i64 l.to) ∧ W.cell? ⟨bb, off + m * 5 + 3, none⟩ = some (.int .i64 l.rd) ∧ W.cell? ⟨bb, off + m * 5 + 4, none⟩ = some (.string l.data)) := fun W hb =>
    ⟨cell_below (below_trans HB0.out hb) c0, cell_below (below_trans HB0.out hb) c1, cell_below (below_trans HB0.out hb) c2, cell_below (below_trans HB0.out hb) c3, cell_below (below_trans HB0.out hb) c4⟩
  clear hhas hxl c0 c1 c2 c3 c4
  have hcan := fun (v : Value) (w : World) (hV : NetV w v x) => Rcan_any x l v w hV hlc
  cases hcb : canB x l
  · rw [hcb] at hcan
    have hCan := Lib.hid hcan
    have HN : Hid (formR x (deliverM x (m : Int)) = errR 6) := HF.out.trans (by unfold deliverM; rw [if_neg (by rw [hh]; decide), hml, hll]; show (if canB x l = false then _ else _) = _; rw [if_pos hcb])
    clear hcan hcb hh hll hml
    go_enter Tryz.func11, Tryz.ntmps11
    go_wp2_with fail
    rw [← HW0.out]
    clear HW0
    refine calls_below (HIS.out _ _ (HV.out _ (Below.refl _ _))) ?_
    intro w1 hb1
    have hz1 := bl_below HZ0.out hb1
    obtain ⟨⟨k0, k1, k2, k3, k4, k5⟩, -⟩ := blc6 hz1
    have hlz := bl_lt hz1
    go_wp2_with fail
    refine calls_below (hHas.out _ _ (HV.out _ hb1)) ?_
    intro w2 hb2
    replace hb2 := below_trans hb1 hb2
    clear hz1 k0 k1 k2 k3 k4 k5 hlz
    have hz1 := bl_below HZ0.out hb2
    obtain ⟨⟨k0, k1, k2, k3, k4, k5⟩, -⟩ := blc6 hz1
    have hlz := bl_lt hz1
    go_upto_region 5 with fail
    obtain ⟨c0, c1, c2, c3, c4⟩ := HCL.out _ hb2
    have hbb := World.block_lt_of_cell? _ _ c0
    refine wp_still_tail 6 (by kernel_rfl) (by kernel_rfl) ?_
    simp only [List.take_succ_cons, List.take_zero, List.drop_succ_cons, List.drop_zero]
    repeat still_step
    refine wpStill_nil ?_
    go_wp2_with fail
    refine calls_below (hCan.out _ _ ((HV.out _ hb2).drew)) ?_
    intro w3 hb3
    replace hb3 := below_trans (below_trans hb2 (Below.refl _ w2).drew) hb3
    clear hz1 k0 k1 k2 k3 k4 k5 hlz hbb
    clear c0 c1 c2 c3 c4
    have hz1 := bl_below HZ0.out hb3
    obtain ⟨⟨k0, k1, k2, k3, k4, k5⟩, -⟩ := blc6 hz1
    have hlz := bl_lt hz1
    go_wp2_with fail
    refine calls_below (Rfailed_any 6 _) ?_
    intro w9 hb9
    have hb9' := below_trans hb3 hb9
    have hm9 := bl_below HM0.out hb9'
    have hl9 := bl_lt hm9
    obtain ⟨⟨d0, d1, d2, d3, d4, d5, d6, d7, d8, d9, d10, d11, d12, d13⟩, fz⟩ := blc14 hm9
    go_wp2
    exact ret_c Tryz.results11 (w.heap.size + 1) 35 _ _ rfl (put14_all hm9) Tryz.underlying35 rfl sizeMade rfl ⟨_, rfl, by rw [HN.out]; exact MadeR_err 6, put14_below (below_trans HB0.out hb9') (by omega)⟩
  rw [hcb] at hcan
  have hCan := Lib.hid hcan
  have HN : Hid (formR x (deliverM x (m : Int)) = ⟨{ x with way := x.way.eraseIdx m }, 0, l, [], 0⟩) := HF.out.trans (by unfold deliverM; rw [if_neg (by rw [hh]; decide), hml, hll]; show (if canB x l = false then _ else _) = _; rw [if_neg (by rw [hcb]; decide)])
  clear hcan hcb hh hll hml
  go_enter Tryz.func11, Tryz.ntmps11
  go_wp2_with fail
  rw [← HW0.out]
  clear HW0
  refine calls_below (HIS.out _ _ (HV.out _ (Below.refl _ _))) ?_
  intro w1 hb1
  have hz1 := bl_below HZ0.out hb1
  obtain ⟨⟨k0, k1, k2, k3, k4, k5⟩, -⟩ := blc6 hz1
  have hlz := bl_lt hz1
  go_wp2_with fail
  refine calls_below (hHas.out _ _ (HV.out _ hb1)) ?_
  intro w2 hb2
  replace hb2 := below_trans hb1 hb2
  clear hz1 k0 k1 k2 k3 k4 k5 hlz
  have hz1 := bl_below HZ0.out hb2
  obtain ⟨⟨k0, k1, k2, k3, k4, k5⟩, -⟩ := blc6 hz1
  have hlz := bl_lt hz1
  go_upto_region 5 with fail
  obtain ⟨c0, c1, c2, c3, c4⟩ := HCL.out _ hb2
  have hbb := World.block_lt_of_cell? _ _ c0
  refine wp_still_tail 6 (by kernel_rfl) (by kernel_rfl) ?_
  simp only [List.take_succ_cons, List.take_zero, List.drop_succ_cons, List.drop_zero]
  repeat still_step
  refine wpStill_nil ?_
  go_wp2_with fail
  refine calls_below (hCan.out _ _ ((HV.out _ hb2).drew)) ?_
  intro w3 hb3
  replace hb3 := below_trans (below_trans hb2 (Below.refl _ w2).drew) hb3
  clear hz1 k0 k1 k2 k3 k4 k5 hlz hbb
  clear c0 c1 c2 c3 c4
  have hz1 := bl_below HZ0.out hb3
  obtain ⟨⟨k0, k1, k2, k3, k4, k5⟩, -⟩ := blc6 hz1
  have hlz := bl_lt hz1
  go_upto_region 7 with fail
  obtain ⟨c0, c1, c2, c3, c4⟩ := HCL.out _ hb3
  have hbb := World.block_lt_of_cell? _ _ c0
  refine wp_mixT [(0, true), (1, true), (3, true), (4, true), (5, true), (6, true), (7, true), (2, false)] 8 (fun w' => Below w3.heap.size w3 w')
    (by kernel_rfl) (by kernel_rfl) (by kernel_rfl) (by kernel_rfl) (by kernel_rfl) (fun d _ _ _ _ h => by cases d <;> exact h) (Below.refl _ _).drew ?_
  simp only [pick, List.map_cons, List.map_nil, List.getD_cons_zero, List.getD_cons_succ, List.drop_succ_cons, List.drop_zero]
  iterate 7
    apply mix_take
    case hw => rfl
    case hy => intro W hW; obtain ⟨hwc, -⟩ := bcell hW; go_simp; try rfl
    simp only [Act.put, List.setIfInBounds_toArray, List.set_cons_zero, List.set_cons_succ]
  refine mix_do fun K' hK' => ?_
  go_wp2_with fail
  refine (Rwithout_any x m (some ⟨bb, off, none⟩) AC AT cW cC cT _ (HWW.out.below ((below_trans HB0.out hb3).drew)) hcap hm hlw).mono ?_
  rintro e w7 ⟨A, c, rfl, hO7, hc7, hb7⟩
  have hb7' : Below w3.heap.size w3 w7 := below_trans (Below.refl _ w3).drew hb7
  go_wp2
  refine hK' _ _ hb7' (mix_nil ?_)
  clear hK' K'
  have HB7 := Lib.hid (below_trans hb3 hb7')
  have HO7 := Lib.hid hO7
  have HC7 := Lib.hid hc7
  have hm9 := bl_below HM0.out HB7.out
  have hl9 := bl_lt hm9
  have HSZ : Hid (w.heap.size + 2 ≤ w3.heap.size) := by show _ ≤ _; have h1 := HS0.out; have h2 := (hb3).size; omega
  obtain ⟨⟨d0, d1, d2, d3, d4, d5, d6, d7, d8, d9, d10, d11, d12, d13⟩, fz⟩ := blc14 hm9
  clear hO7 hc7 hb7 hb7' k0 k1 k2 k3 k4 k5 hlz hz1 c0 c1 c2 c3 c4
  go_wp2
  have hbl : Below w.heap.size w w7 := below_trans HB0.out HB7.out
  have hq := HSZ.out
  exact ret_c Tryz.results11 (w.heap.size + 1) 35 _ _ rfl (put14_all hm9) Tryz.underlying35 rfl sizeMade rfl ⟨_, rfl, by
    rw [HN.out]
    exact ⟨A, c, AC, cC, AT, cT, none, 0, rfl, .inr ⟨_, (by show w.heap.size ≤ w3.heap.size; omega), Own.put14 HO7.out (by first | omega | (show _ < w3.heap.size; omega))⟩, .inl ⟨rfl, rfl⟩, .inl ⟨rfl, rfl⟩, ⟨_, Nat.le_refl _, Own.nil _ _ _⟩⟩, put14_below hbl (by omega)⟩
end Go.Proofs.YthlbmcfliejdiaaGreat
end

section
set_option linter.unusedVariables false
set_option linter.unusedSimpArgs false
namespace Go.Proofs.YthlbmcfliejdiaaGreat
open Go.RowKit

set_option maxHeartbeats 4000000 in
set_option maxRecDepth 100000 in
theorem RSend_rows (x : Nt) (a b : Int) (data : ByteArray) (w : World) (AW AC AT : Option Addr) (cW cC cT : Nat) (hW : Rd w AW x.way) (hC : Rd w AC x.cuts) (hT : Rd w AT x.timers) (hcap : x.way.length ≤ cW) (hlc : x.cuts.length ≤ 10000000) (hlw : x.way.length ≤ 10000000) (hlt : x.timers.length ≤ 10000000) :
    Calls Tryz.prog 8 #[.agg #[.int .i64 x.nodes, .int .i64 x.now, .int .i64 x.next, .slice AW x.way.length cW, .slice AC x.cuts.length cC, .slice AT x.timers.length cT], .int .i64 a, .int .i64 b, .string data] w fun e w' => ∃ v, e = .returned v ∧ MadeR w.heap.size w' x AW cW AC cC AT cT v (formR x (sendM x a b data)) ∧ Below w.heap.size w w' := by
  obtain ⟨w0, hw0⟩ : ∃ w0, w0 = (w.alloc (.cells #[.int .i64 x.nodes, .int .i64 x.now, .int .i64 x.next, .slice AW x.way.length cW, .slice AC x.cuts.length cC, .slice AT x.timers.length cT] 26)).alloc (.cells #[.int .i64 0, .int .i64 0, .int .i64 0, .slice none 0 0, .slice none 0 0, .slice none 0 0, .int .i64 0, .int .i64 0, .int .i64 0, .int .i64 0, .int .i64 0, .string ⟨#[]⟩, .slice none 0 0, .int .i64 0] 35) := ⟨_, rfl⟩
  obtain ⟨hb0, hz0, hm0, hs0⟩ := made_start hw0
  have HV : Hid (∀ W, Below w0.heap.size w0 W → NetV W (.agg #[.int .i64 x.nodes, .int .i64 x.now, .int .i64 x.next, .slice AW x.way.length cW, .slice AC x.cuts.length cC, .slice AT x.timers.length cT]) x) := fun W hb => ⟨AW, cW, AC, cC, AT, cT, rfl, hW.below (below_trans hb0 hb), hC.below (below_trans hb0 hb), hT.below (below_trans hb0 hb)⟩
  have his := fun (v : Value) (w : World) (hV : NetV w v x) => RIs_any x v w hV hlc hlw hlt
  have HB0 := Lib.hid hb0
  have HZ0 := Lib.hid hz0
  have HM0 := Lib.hid hm0
  have HS0 := Lib.hid hs0
  have HW0 := Lib.hid hw0
  have HC := Lib.hid (hC.below hb0)
  have HT := Lib.hid (hT.below hb0)
  have HWW := Lib.hid hW
  have HTW := Lib.hid hT
  have HCW := Lib.hid hC
  clear hb0 hz0 hm0 hs0 hw0 hW hC hT
  cases hc : checkB x
  · rw [hc] at his
    have HIS := Lib.hid his
    have HN : Hid (formR x (sendM x a b data) = errR 2) := if_pos hc
    clear his hc
    go_enter Tryz.func8, Tryz.ntmps8
    go_wp2_with fail
    rw [← HW0.out]
    clear HW0
    refine calls_below (HIS.out _ _ (HV.out _ (Below.refl _ _))) ?_
    intro w1 hb1
    have hz1 := bl_below HZ0.out hb1
    obtain ⟨⟨k0, k1, k2, k3, k4, k5⟩, -⟩ := blc6 hz1
    have hlz := bl_lt hz1
    go_wp2_with fail
    refine calls_below (Rfailed_any 2 _) ?_
    intro w9 hb9
    have hb9' := below_trans hb1 hb9
    have hm9 := bl_below HM0.out hb9'
    have hl9 := bl_lt hm9
    obtain ⟨⟨d0, d1, d2, d3, d4, d5, d6, d7, d8, d9, d10, d11, d12, d13⟩, fz⟩ := blc14 hm9
    go_wp2
    exact ret_c Tryz.results8 (w.heap.size + 1) 35 _ _ rfl (put14_all hm9) Tryz.underlying35 rfl sizeMade rfl ⟨_, rfl, by rw [HN.out]; exact MadeR_err 2, put14_below (below_trans HB0.out hb9') (by omega)⟩
  rw [hc] at his
  have HIS := Lib.hid his
  have HF : Hid (formR x (sendM x a b data) = sendM x a b data) := if_neg (by rw [hc]; decide)
  have HOK : Hid (Ok x) := (ok_iff x).1 hc
  clear his hc
  obtain ⟨bA, hA⟩ : ∃ b, isNodeB x.nodes a = b := ⟨_, rfl⟩
  obtain ⟨bB, hB⟩ : ∃ b', isNodeB x.nodes b = b' := ⟨_, rfl⟩
  obtain ⟨bE, hE⟩ : ∃ b', (a == b) = b' := ⟨_, rfl⟩
  obtain ⟨bD, hD⟩ : ∃ b', decide ((500000 : Int) < (data.size : Int)) = b' := ⟨_, rfl⟩
  have htw : sendB x a b data = (bA && bB && !bE && !bD) := by
    unfold sendB; rw [hA, hB, ← hE, ← hD]
    congr 1
    · congr 1
      rw [Bool.eq_iff_iff]; simp
    · rw [Bool.eq_iff_iff]; simp; omega
  have hnA : Hid (∀ w, Calls Tryz.prog 41 #[.agg #[.int .i64 x.nodes, .int .i64 x.now, .int .i64 x.next, .slice AW x.way.length cW, .slice AC x.cuts.length cC, .slice AT x.timers.length cT], .int .i64 a] w fun e w' => e = .returned (.bool bA) ∧ Below w.heap.size w w') := fun w => by have h := RisNode_any x.nodes x.now x.next a AW AC AT x.way.length cW x.cuts.length cC x.timers.length cT w; rwa [hA] at h
  have hnB : Hid (∀ w, Calls Tryz.prog 41 #[.agg #[.int .i64 x.nodes, .int .i64 x.now, .int .i64 x.next, .slice AW x.way.length cW, .slice AC x.cuts.length cC, .slice AT x.timers.length cT], .int .i64 b] w fun e w' => e = .returned (.bool bB) ∧ Below w.heap.size w w') := fun w => by have h := RisNode_any x.nodes x.now x.next b AW AC AT x.way.length cW x.cuts.length cC x.timers.length cT w; rwa [hB] at h
  have HTW := Lib.hid htw
  clear htw hA hB
  cases bA
  · have HN : Hid (formR x (sendM x a b data) = errR 1) := HF.out.trans (if_pos (HTW.out.trans rfl))
    clear hE hD
    go_enter Tryz.func8, Tryz.ntmps8
    go_wp2_with fail
    rw [← HW0.out]
    clear HW0
    refine calls_below (HIS.out _ _ (HV.out _ (Below.refl _ _))) ?_
    intro w1 hb1
    have hz1 := bl_below HZ0.out hb1
    obtain ⟨⟨k0, k1, k2, k3, k4, k5⟩, -⟩ := blc6 hz1
    have hlz := bl_lt hz1
    go_wp2_with fail
    refine calls_below (hnA.out _) ?_
    intro w2 hb2
    replace hb2 := below_trans hb1 hb2
    clear hz1 k0 k1 k2 k3 k4 k5 hlz
    have hz1 := bl_below HZ0.out hb2
    obtain ⟨⟨k0, k1, k2, k3, k4, k5⟩, -⟩ := blc6 hz1
    have hlz := bl_lt hz1
    go_wp2_with fail
    refine calls_below (Rfailed_any 1 _) ?_
    intro w9 hb9
    have hb9' := below_trans hb2 hb9
    have hm9 := bl_below HM0.out hb9'
    have hl9 := bl_lt hm9
    obtain ⟨⟨d0, d1, d2, d3, d4, d5, d6, d7, d8, d9, d10, d11, d12, d13⟩, fz⟩ := blc14 hm9
    go_wp2
    exact ret_c Tryz.results8 (w.heap.size + 1) 35 _ _ rfl (put14_all hm9) Tryz.underlying35 rfl sizeMade rfl ⟨_, rfl, by rw [HN.out]; exact MadeR_err 1, put14_below (below_trans HB0.out hb9') (by omega)⟩
  cases bB
  · have HN : Hid (formR x (sendM x a b data) = errR 1) := HF.out.trans (if_pos (HTW.out.trans rfl))
    clear hE hD
    go_enter Tryz.func8, Tryz.ntmps8
    go_wp2_with fail
    rw [← HW0.out]
    clear HW0
    refine calls_below (HIS.out _ _ (HV.out _ (Below.refl _ _))) ?_
    intro w1 hb1
    have hz1 := bl_below HZ0.out hb1
    obtain ⟨⟨k0, k1, k2, k3, k4, k5⟩, -⟩ := blc6 hz1
    have hlz := bl_lt hz1
    go_wp2_with fail
    refine calls_below (hnA.out _) ?_
    intro w2 hb2
    replace hb2 := below_trans hb1 hb2
    clear hz1 k0 k1 k2 k3 k4 k5 hlz
    have hz1 := bl_below HZ0.out hb2
    obtain ⟨⟨k0, k1, k2, k3, k4, k5⟩, -⟩ := blc6 hz1
    have hlz := bl_lt hz1
    go_wp2_with fail
    refine calls_below (hnB.out _) ?_
    intro w3 hb3
    replace hb3 := below_trans hb2 hb3
    clear hz1 k0 k1 k2 k3 k4 k5 hlz
    have hz1 := bl_below HZ0.out hb3
    obtain ⟨⟨k0, k1, k2, k3, k4, k5⟩, -⟩ := blc6 hz1
    have hlz := bl_lt hz1
    go_wp2_with fail
    refine calls_below (Rfailed_any 1 _) ?_
    intro w9 hb9
    have hb9' := below_trans hb3 hb9
    have hm9 := bl_below HM0.out hb9'
    have hl9 := bl_lt hm9
    obtain ⟨⟨d0, d1, d2, d3, d4, d5, d6, d7, d8, d9, d10, d11, d12, d13⟩, fz⟩ := blc14 hm9
    go_wp2
    exact ret_c Tryz.results8 (w.heap.size + 1) 35 _ _ rfl (put14_all hm9) Tryz.underlying35 rfl sizeMade rfl ⟨_, rfl, by rw [HN.out]; exact MadeR_err 1, put14_below (below_trans HB0.out hb9') (by omega)⟩
  cases bE
  rotate_left 1
  · have HN : Hid (formR x (sendM x a b data) = errR 1) := HF.out.trans (if_pos (HTW.out.trans rfl))
    clear hD
    go_enter Tryz.func8, Tryz.ntmps8
    go_wp2_with fail
    rw [← HW0.out]
    clear HW0
    refine calls_below (HIS.out _ _ (HV.out _ (Below.refl _ _))) ?_
    intro w1 hb1
    have hz1 := bl_below HZ0.out hb1
    obtain ⟨⟨k0, k1, k2, k3, k4, k5⟩, -⟩ := blc6 hz1
    have hlz := bl_lt hz1
    go_wp2_with fail
    refine calls_below (hnA.out _) ?_
    intro w2 hb2
    replace hb2 := below_trans hb1 hb2
    clear hz1 k0 k1 k2 k3 k4 k5 hlz
    have hz1 := bl_below HZ0.out hb2
    obtain ⟨⟨k0, k1, k2, k3, k4, k5⟩, -⟩ := blc6 hz1
    have hlz := bl_lt hz1
    go_wp2_with fail
    refine calls_below (hnB.out _) ?_
    intro w3 hb3
    replace hb3 := below_trans hb2 hb3
    clear hz1 k0 k1 k2 k3 k4 k5 hlz
    have hz1 := bl_below HZ0.out hb3
    obtain ⟨⟨k0, k1, k2, k3, k4, k5⟩, -⟩ := blc6 hz1
    have hlz := bl_lt hz1
    go_wp2_with fail
    refine calls_below (Rfailed_any 1 _) ?_
    intro w9 hb9
    have hb9' := below_trans hb3 hb9
    have hm9 := bl_below HM0.out hb9'
    have hl9 := bl_lt hm9
    obtain ⟨⟨d0, d1, d2, d3, d4, d5, d6, d7, d8, d9, d10, d11, d12, d13⟩, fz⟩ := blc14 hm9
    go_wp2
    exact ret_c Tryz.results8 (w.heap.size + 1) 35 _ _ rfl (put14_all hm9) Tryz.underlying35 rfl sizeMade rfl ⟨_, rfl, by rw [HN.out]; exact MadeR_err 1, put14_below (below_trans HB0.out hb9') (by omega)⟩
  cases bD
  rotate_left 1
  · have HN : Hid (formR x (sendM x a b data) = errR 1) := HF.out.trans (if_pos (HTW.out.trans rfl))
    go_enter Tryz.func8, Tryz.ntmps8
    go_wp2_with fail
    rw [← HW0.out]
    clear HW0
    refine calls_below (HIS.out _ _ (HV.out _ (Below.refl _ _))) ?_
    intro w1 hb1
    have hz1 := bl_below HZ0.out hb1
    obtain ⟨⟨k0, k1, k2, k3, k4, k5⟩, -⟩ := blc6 hz1
    have hlz := bl_lt hz1
    go_wp2_with fail
    refine calls_below (hnA.out _) ?_
    intro w2 hb2
    replace hb2 := below_trans hb1 hb2
    clear hz1 k0 k1 k2 k3 k4 k5 hlz
    have hz1 := bl_below HZ0.out hb2
    obtain ⟨⟨k0, k1, k2, k3, k4, k5⟩, -⟩ := blc6 hz1
    have hlz := bl_lt hz1
    go_wp2_with fail
    refine calls_below (hnB.out _) ?_
    intro w3 hb3
    replace hb3 := below_trans hb2 hb3
    clear hz1 k0 k1 k2 k3 k4 k5 hlz
    have hz1 := bl_below HZ0.out hb3
    obtain ⟨⟨k0, k1, k2, k3, k4, k5⟩, -⟩ := blc6 hz1
    have hlz := bl_lt hz1
    go_wp2_with fail
    refine calls_below (Rfailed_any 1 _) ?_
    intro w9 hb9
    have hb9' := below_trans hb3 hb9
    have hm9 := bl_below HM0.out hb9'
    have hl9 := bl_lt hm9
    obtain ⟨⟨d0, d1, d2, d3, d4, d5, d6, d7, d8, d9, d10, d11, d12, d13⟩, fz⟩ := blc14 hm9
    go_wp2
    exact ret_c Tryz.results8 (w.heap.size + 1) 35 _ _ rfl (put14_all hm9) Tryz.underlying35 rfl sizeMade rfl ⟨_, rfl, by rw [HN.out]; exact MadeR_err 1, put14_below (below_trans HB0.out hb9') (by omega)⟩
  have hTT : sendB x a b data = true := HTW.out.trans rfl
  clear HTW
  have hmo : sendM x a b data = if x.next = 1099511627776 then errR 3 else if x.way.length = 200 then errR 7 else ⟨{ x with next := x.next + 1, way := x.way ++ [⟨x.next, a, b, x.now, data⟩] }, x.next, ⟨x.next, a, b, x.now, data⟩, [], 0⟩ := if_neg (by rw [hTT]; decide)
  clear hTT
  cases q1 : (x.next == 1099511627776)
  rotate_left 1
  · have HN : Hid (formR x (sendM x a b data) = errR 3) := HF.out.trans (hmo.trans (if_pos (beq_iff_eq.1 q1)))
    clear hmo
    go_enter Tryz.func8, Tryz.ntmps8
    go_wp2_with fail
    rw [← HW0.out]
    clear HW0
    refine calls_below (HIS.out _ _ (HV.out _ (Below.refl _ _))) ?_
    intro w1 hb1
    have hz1 := bl_below HZ0.out hb1
    obtain ⟨⟨k0, k1, k2, k3, k4, k5⟩, -⟩ := blc6 hz1
    have hlz := bl_lt hz1
    go_wp2_with fail
    refine calls_below (hnA.out _) ?_
    intro w2 hb2
    replace hb2 := below_trans hb1 hb2
    clear hz1 k0 k1 k2 k3 k4 k5 hlz
    have hz1 := bl_below HZ0.out hb2
    obtain ⟨⟨k0, k1, k2, k3, k4, k5⟩, -⟩ := blc6 hz1
    have hlz := bl_lt hz1
    go_wp2_with fail
    refine calls_below (hnB.out _) ?_
    intro w3 hb3
    replace hb3 := below_trans hb2 hb3
    clear hz1 k0 k1 k2 k3 k4 k5 hlz
    have hz1 := bl_below HZ0.out hb3
    obtain ⟨⟨k0, k1, k2, k3, k4, k5⟩, -⟩ := blc6 hz1
    have hlz := bl_lt hz1
    go_wp2_with fail
    refine calls_below (Rfailed_any 3 _) ?_
    intro w9 hb9
    have hb9' := below_trans hb3 hb9
    have hm9 := bl_below HM0.out hb9'
    have hl9 := bl_lt hm9
    obtain ⟨⟨d0, d1, d2, d3, d4, d5, d6, d7, d8, d9, d10, d11, d12, d13⟩, fz⟩ := blc14 hm9
    go_wp2
    exact ret_c Tryz.results8 (w.heap.size + 1) 35 _ _ rfl (put14_all hm9) Tryz.underlying35 rfl sizeMade rfl ⟨_, rfl, by rw [HN.out]; exact MadeR_err 3, put14_below (below_trans HB0.out hb9') (by omega)⟩
  rw [if_neg (beq_eq_false_iff_ne.1 q1)] at hmo
  cases q2 : ((x.way.length : Int) == 200)
  rotate_left 1
  · have HN : Hid (formR x (sendM x a b data) = errR 7) := HF.out.trans (hmo.trans (if_pos (by have := beq_iff_eq.1 q2; omega)))
    clear hmo
    go_enter Tryz.func8, Tryz.ntmps8
    go_wp2_with fail
    rw [← HW0.out]
    clear HW0
    refine calls_below (HIS.out _ _ (HV.out _ (Below.refl _ _))) ?_
    intro w1 hb1
    have hz1 := bl_below HZ0.out hb1
    obtain ⟨⟨k0, k1, k2, k3, k4, k5⟩, -⟩ := blc6 hz1
    have hlz := bl_lt hz1
    go_wp2_with fail
    refine calls_below (hnA.out _) ?_
    intro w2 hb2
    replace hb2 := below_trans hb1 hb2
    clear hz1 k0 k1 k2 k3 k4 k5 hlz
    have hz1 := bl_below HZ0.out hb2
    obtain ⟨⟨k0, k1, k2, k3, k4, k5⟩, -⟩ := blc6 hz1
    have hlz := bl_lt hz1
    go_wp2_with fail
    refine calls_below (hnB.out _) ?_
    intro w3 hb3
    replace hb3 := below_trans hb2 hb3
    clear hz1 k0 k1 k2 k3 k4 k5 hlz
    have hz1 := bl_below HZ0.out hb3
    obtain ⟨⟨k0, k1, k2, k3, k4, k5⟩, -⟩ := blc6 hz1
    have hlz := bl_lt hz1
    go_wp2_with fail
    refine calls_below (Rfailed_any 7 _) ?_
    intro w9 hb9
    have hb9' := below_trans hb3 hb9
    have hm9 := bl_below HM0.out hb9'
    have hl9 := bl_lt hm9
    obtain ⟨⟨d0, d1, d2, d3, d4, d5, d6, d7, d8, d9, d10, d11, d12, d13⟩, fz⟩ := blc14 hm9
    go_wp2
    exact ret_c Tryz.results8 (w.heap.size + 1) 35 _ _ rfl (put14_all hm9) Tryz.underlying35 rfl sizeMade rfl ⟨_, rfl, by rw [HN.out]; exact MadeR_err 7, put14_below (below_trans HB0.out hb9') (by omega)⟩
  rw [if_neg (by have := beq_eq_false_iff_ne.1 q2; omega)] at hmo
  obtain ⟨l, hl⟩ : ∃ l : Lt, l = ⟨x.next, a, b, x.now, data⟩ := ⟨_, rfl⟩
  rw [← hl] at hmo
  have HL := Lib.hid hl
  have HN : Hid (formR x (sendM x a b data) = ⟨{ x with next := x.next + 1, way := x.way ++ [l] }, l.id, l, [], 0⟩) := HF.out.trans (hmo.trans (by rw [show l.id = x.next by rw [hl]]))
  have nx0 : 0 ≤ x.next := HOK.out.s0
  have nx1 : x.next ≤ 1099511627776 := HOK.out.s1
  have bl_newL : ∀ (W : World) (o : Obj), (W.alloc (.cells #[.int .i64 x.next, .int .i64 a, .int .i64 b, .int .i64 x.now, .string data] 33)).heap[W.heap.size]? = some (.cells #[.int .i64 l.id, .int .i64 l.fr, .int .i64 l.to, .int .i64 l.rd, .string l.data] 33 (0, 0)) := fun W o => by rw [hl]; exact bl_new W _
  have HNL := Lib.hid bl_newL
  clear hmo hl bl_newL
  go_enter Tryz.func8, Tryz.ntmps8
  go_wp2_with fail
  rw [← HW0.out]
  clear HW0
  refine calls_below (HIS.out _ _ (HV.out _ (Below.refl _ _))) ?_
  intro w1 hb1
  have hz1 := bl_below HZ0.out hb1
  obtain ⟨⟨k0, k1, k2, k3, k4, k5⟩, -⟩ := blc6 hz1
  have hlz := bl_lt hz1
  go_wp2_with fail
  refine calls_below (hnA.out _) ?_
  intro w2 hb2
  replace hb2 := below_trans hb1 hb2
  clear hz1 k0 k1 k2 k3 k4 k5 hlz
  have hz1 := bl_below HZ0.out hb2
  obtain ⟨⟨k0, k1, k2, k3, k4, k5⟩, -⟩ := blc6 hz1
  have hlz := bl_lt hz1
  go_wp2_with fail
  refine calls_below (hnB.out _) ?_
  intro w3 hb3
  replace hb3 := below_trans hb2 hb3
  clear hz1 k0 k1 k2 k3 k4 k5 hlz
  have hz1 := bl_below HZ0.out hb3
  obtain ⟨⟨k0, k1, k2, k3, k4, k5⟩, -⟩ := blc6 hz1
  have hlz := bl_lt hz1
  go_upto_region 10 with fail
  obtain ⟨w4, hw4⟩ : ∃ w4, w4 = w3.alloc (.cells #[.int .i64 x.next, .int .i64 a, .int .i64 b, .int .i64 x.now, .string data] 33) := ⟨_, rfl⟩
  have HB4 : Hid (Below w0.heap.size w0 w4) := by rw [hw4]; exact below_alloc hb3 _
  have HGL : Hid (w4.heap[w3.heap.size]? = some (.cells #[.int .i64 l.id, .int .i64 l.fr, .int .i64 l.to, .int .i64 l.rd, .string l.data] 33 (0, 0))) := by rw [hw4]; exact HNL.out _ (.cells #[] 33)
  have HLN : Hid (w.heap.size + 2 ≤ w3.heap.size) := by show _ ≤ _; have h1 := HS0.out; have h2 := (hb3).size; omega
  have HLS : Hid (w3.heap.size < w4.heap.size) := by rw [hw4]; show _ < _; simp
  rw [← hw4]
  clear hw4 k0 k1 k2 k3 k4 k5 hlz hz1
  have HG4 := Lib.hid (bl_below HZ0.out HB4.out)
  have HM4 := Lib.hid (bl_below HM0.out HB4.out)
  have HR4 := Lib.hid (HWW.out.below (below_trans HB0.out HB4.out))
  refine wp_st 73 (by rfl) fun f0 hf0 => ?_
  refine wp_cut (fun a wx => ∃ f' u, a = st 73 f' ∧ f' 4 = .pointer (some ⟨w.heap.size, 0, none⟩) ∧ f' 8 = .pointer (some ⟨w.heap.size + 1, 0, none⟩) ∧ f' 9 = .pointer (some ⟨w3.heap.size, 0, none⟩) ∧ Hid (Own wx w4.heap.size 33 u (x.way ++ [l])) ∧ Hid (wx.heap[w.heap.size]? = some (.cells #[.int .i64 x.nodes, .int .i64 x.now, .int .i64 x.next, u, .slice AC x.cuts.length cC, .slice AT x.timers.length cT] 26 (0, 0))) ∧ Hid (Below w.heap.size w4 wx) ∧ Hid (∀ k o, k ≠ w.heap.size → w4.heap[k]? = some o → wx.heap[k]? = some o)) ?rest ?first
  case first =>
    intro J K' hJ hK'
    exact putSend x f0 w4 w.heap.size AW AC AT cW cC cT w3.heap.size l _ K' _ ((hf0 8).trans rfl) ((hf0 4).trans rfl) ((hf0 9).trans rfl) HG4 HGL (by have := HLN.out; omega) HR4 (by omega)
      (fun a w' ⟨f', u, he, h1, h2, h3, hO, hG, hB, hF⟩ => hK' _ _ (Met.intro (hJ _ _ ⟨f', u, he, h1, h2, h3, hO, hG, hB, hF⟩)))
  case rest =>
    rintro a' w5 ⟨f', u, rfl, h1, h2, h3, HO, HG, HB, HF⟩
    rw [show st 73 f' = ⟨#[f' 0, f' 1, f' 2, f' 3, f' 4, f' 5, f' 6, f' 7, f' 8, f' 9, f' 10, f' 11, f' 12, f' 13, f' 14, f' 15, f' 16, f' 17, f' 18, f' 19, f' 20, f' 21, f' 22, f' 23, f' 24, f' 25, f' 26, f' 27, f' 28, f' 29, f' 30, f' 31, f' 32, f' 33, f' 34, f' 35, f' 36, f' 37, f' 38, f' 39, f' 40, f' 41, f' 42, f' 43, f' 44, f' 45, f' 46, f' 47, f' 48, f' 49, f' 50, f' 51, f' 52, f' 53, f' 54, f' 55, f' 56, f' 57, f' 58, f' 59, f' 60, f' 61, f' 62, f' 63, f' 64, f' 65, f' 66, f' 67, f' 68, f' 69, f' 70, f' 71, f' 72], []⟩ by rfl, h1, h2, h3]
    obtain ⟨A, c, rfl, hc, hR⟩ := HO.out.slice
    have HC9 := Lib.hid hc
    have hm5 := HF.out (w.heap.size + 1) _ (by omega) HM4.out
    have hl5 := HF.out w3.heap.size _ (by have := HLN.out; omega) HGL.out
    obtain ⟨⟨k0, k1, k2, k3, k4, k5⟩, f0, f1, f2, f3, f4, f5⟩ := blc6 HG.out
    have hlg := bl_lt HG.out
    obtain ⟨⟨d0, d1, d2, d3, d4, d5, d6, d7, d8, d9, d10, d11, d12, d13⟩, fz⟩ := blc14 hm5
    have hlm := bl_lt hm5
    obtain ⟨⟨g0, g1, g2, g3, g4⟩, -⟩ := blc5 hl5
    have hll5 := bl_lt hl5
    have n1 : ¬ w3.heap.size = w.heap.size := by have := HLN.out; omega
    have n2 : ¬ w3.heap.size = w.heap.size + 1 := by have := HLN.out; omega
    have HM5 := Lib.hid hm5
    have HB5 := Lib.hid (HB0.out.trans ((HB4.out.mono (by have := HS0.out; omega)).trans HB.out))
    have HLT : Hid (w.heap.size + 1 < w4.heap.size) := by show _ < _; have := HLN.out; have := HLS.out; omega
    clear hf0 f0 h1 h2 h3 hR hc hm5 hl5
    go_wp2
    have hfar := bl_far HM5.out (p := ⟨w.heap.size, 2, none⟩) (by simp) (.int .i64 (x.next + 1))
    have hbl : Below w.heap.size w (w5.setCell ⟨w.heap.size, 2, none⟩ (.int .i64 (x.next + 1))) := HB5.out.setCell (Nat.le_refl _) _
    have hq := HLT.out
    exact ret_c Tryz.results8 (w.heap.size + 1) 35 _ _ rfl (put14_all hfar) Tryz.underlying35 rfl sizeMade rfl ⟨_, rfl, by
      rw [HN.out]
      exact ⟨A, c, AC, cC, AT, cT, none, 0, by simp, .inr ⟨_, (by omega), Own.put14 (HO.out.far (p := ⟨w.heap.size, 2, none⟩) (by show w.heap.size < w4.heap.size; omega) _) (by omega)⟩, .inl ⟨rfl, rfl⟩, .inl ⟨rfl, rfl⟩, ⟨_, Nat.le_refl _, Own.nil _ _ _⟩⟩, put14_below hbl (by omega)⟩
set_option maxHeartbeats 4000000 in
set_option maxRecDepth 100000 in
theorem RDouble_rows (x : Nt) (i : Int) (w : World) (AW AC AT : Option Addr) (cW cC cT : Nat) (hW : Rd w AW x.way) (hC : Rd w AC x.cuts) (hT : Rd w AT x.timers) (hcap : x.way.length ≤ cW) (hlc : x.cuts.length ≤ 10000000) (hlw : x.way.length ≤ 10000000) (hlt : x.timers.length ≤ 10000000) :
    Calls Tryz.prog 15 #[.agg #[.int .i64 x.nodes, .int .i64 x.now, .int .i64 x.next, .slice AW x.way.length cW, .slice AC x.cuts.length cC, .slice AT x.timers.length cT], .int .i64 i] w fun e w' => ∃ v, e = .returned v ∧ MadeR w.heap.size w' x AW cW AC cC AT cT v (formR x (doubleM x i)) ∧ Below w.heap.size w w' := by
  obtain ⟨w0, hw0⟩ : ∃ w0, w0 = (w.alloc (.cells #[.int .i64 x.nodes, .int .i64 x.now, .int .i64 x.next, .slice AW x.way.length cW, .slice AC x.cuts.length cC, .slice AT x.timers.length cT] 26)).alloc (.cells #[.int .i64 0, .int .i64 0, .int .i64 0, .slice none 0 0, .slice none 0 0, .slice none 0 0, .int .i64 0, .int .i64 0, .int .i64 0, .int .i64 0, .int .i64 0, .string ⟨#[]⟩, .slice none 0 0, .int .i64 0] 35) := ⟨_, rfl⟩
  obtain ⟨hb0, hz0, hm0, hs0⟩ := made_start hw0
  have HV : Hid (∀ W, Below w0.heap.size w0 W → NetV W (.agg #[.int .i64 x.nodes, .int .i64 x.now, .int .i64 x.next, .slice AW x.way.length cW, .slice AC x.cuts.length cC, .slice AT x.timers.length cT]) x) := fun W hb => ⟨AW, cW, AC, cC, AT, cT, rfl, hW.below (below_trans hb0 hb), hC.below (below_trans hb0 hb), hT.below (below_trans hb0 hb)⟩
  have his := fun (v : Value) (w : World) (hV : NetV w v x) => RIs_any x v w hV hlc hlw hlt
  have HB0 := Lib.hid hb0
  have HZ0 := Lib.hid hz0
  have HM0 := Lib.hid hm0
  have HS0 := Lib.hid hs0
  have HW0 := Lib.hid hw0
  have HC := Lib.hid (hC.below hb0)
  have HT := Lib.hid (hT.below hb0)
  have HWW := Lib.hid hW
  have HTW := Lib.hid hT
  have HCW := Lib.hid hC
  clear hb0 hz0 hm0 hs0 hw0 hW hC hT
  cases hc : checkB x
  · rw [hc] at his
    have HIS := Lib.hid his
    have HN : Hid (formR x (doubleM x i) = errR 2) := if_pos hc
    clear his hc
    go_enter Tryz.func15, Tryz.ntmps15
    go_wp2_with fail
    rw [← HW0.out]
    clear HW0
    refine calls_below (HIS.out _ _ (HV.out _ (Below.refl _ _))) ?_
    intro w1 hb1
    have hz1 := bl_below HZ0.out hb1
    obtain ⟨⟨k0, k1, k2, k3, k4, k5⟩, -⟩ := blc6 hz1
    have hlz := bl_lt hz1
    go_wp2_with fail
    refine calls_below (Rfailed_any 2 _) ?_
    intro w9 hb9
    have hb9' := below_trans hb1 hb9
    have hm9 := bl_below HM0.out hb9'
    have hl9 := bl_lt hm9
    obtain ⟨⟨d0, d1, d2, d3, d4, d5, d6, d7, d8, d9, d10, d11, d12, d13⟩, fz⟩ := blc14 hm9
    go_wp2
    exact ret_c Tryz.results15 (w.heap.size + 1) 35 _ _ rfl (put14_all hm9) Tryz.underlying35 rfl sizeMade rfl ⟨_, rfl, by rw [HN.out]; exact MadeR_err 2, put14_below (below_trans HB0.out hb9') (by omega)⟩
  rw [hc] at his
  have HIS := Lib.hid his
  have HF : Hid (formR x (doubleM x i) = doubleM x i) := if_neg (by rw [hc]; decide)
  have HOK : Hid (Ok x) := (ok_iff x).1 hc
  clear his hc
  have hhas := fun (v : Value) (w : World) (hV : NetV w v x) => Rhas_any x i v w hV
  cases hh : hasB x.way.length i
  · rw [hh] at hhas
    have hHas := Lib.hid hhas
    have HN : Hid (formR x (doubleM x i) = errR 4) := HF.out.trans (if_pos hh)
    clear hhas hh
    go_enter Tryz.func15, Tryz.ntmps15
    go_wp2_with fail
    rw [← HW0.out]
    clear HW0
    refine calls_below (HIS.out _ _ (HV.out _ (Below.refl _ _))) ?_
    intro w1 hb1
    have hz1 := bl_below HZ0.out hb1
    obtain ⟨⟨k0, k1, k2, k3, k4, k5⟩, -⟩ := blc6 hz1
    have hlz := bl_lt hz1
    go_wp2_with fail
    refine calls_below (hHas.out _ _ (HV.out _ hb1)) ?_
    intro w2 hb2
    replace hb2 := below_trans hb1 hb2
    clear hz1 k0 k1 k2 k3 k4 k5 hlz
    have hz1 := bl_below HZ0.out hb2
    obtain ⟨⟨k0, k1, k2, k3, k4, k5⟩, -⟩ := blc6 hz1
    have hlz := bl_lt hz1
    go_wp2_with fail
    refine calls_below (Rfailed_any 4 _) ?_
    intro w9 hb9
    have hb9' := below_trans hb2 hb9
    have hm9 := bl_below HM0.out hb9'
    have hl9 := bl_lt hm9
    obtain ⟨⟨d0, d1, d2, d3, d4, d5, d6, d7, d8, d9, d10, d11, d12, d13⟩, fz⟩ := blc14 hm9
    go_wp2
    exact ret_c Tryz.results15 (w.heap.size + 1) 35 _ _ rfl (put14_all hm9) Tryz.underlying35 rfl sizeMade rfl ⟨_, rfl, by rw [HN.out]; exact MadeR_err 4, put14_below (below_trans HB0.out hb9') (by omega)⟩
  rw [hh] at hhas
  have hHas := Lib.hid hhas
  obtain ⟨m, hm, rfl⟩ : ∃ m : Nat, m < x.way.length ∧ i = (m : Int) := by
    have h := hh
    simp only [hasB, Bool.and_eq_true, decide_eq_true_eq] at h
    obtain ⟨m, rfl⟩ := Int.eq_ofNat_of_zero_le h.1
    exact ⟨m, by omega, rfl⟩
  obtain ⟨bb, off, l, rfl, hxl, c0, c1, c2, c3, c4⟩ := HWW.out.lt m hm
  have hll : x.way[m]? = some l := hxl.out
  have hml : ((m : Int)).toNat = m := rfl
  have HCL : Hid (∀ W, Below w0.heap.size w0 W → W.cell? ⟨bb, off + m * 5, none⟩ = some (.int .i64 l.id) ∧ W.cell? ⟨bb, off + m * 5 + 1, none⟩ = some (.int .i64 l.fr) ∧ W.cell? ⟨bb, off + m * 5 + 2, none⟩ = some (.int .i64 l.to) ∧ W.cell? ⟨bb, off + m * 5 + 3, none⟩ = some (.int .i64 l.rd) ∧ W.cell? ⟨bb, off + m * 5 + 4, none⟩ = some (.string l.data)) := fun W hb =>
    ⟨cell_below (below_trans HB0.out hb) c0, cell_below (below_trans HB0.out hb) c1, cell_below (below_trans HB0.out hb) c2, cell_below (below_trans HB0.out hb) c3, cell_below (below_trans HB0.out hb) c4⟩
  clear hhas hxl c0 c1 c2 c3 c4
  have hmo : doubleM x (m : Int) = if x.way.length = 200 then errR 7 else ⟨{ x with way := x.way ++ [l] }, 0, l, [], 0⟩ := by unfold doubleM; rw [if_neg (by rw [hh]; decide), hml, hll]
  clear hh hll hml
  cases q2 : ((x.way.length : Int) == 200)
  rotate_left 1
  · have HN : Hid (formR x (doubleM x (m : Int)) = errR 7) := HF.out.trans (hmo.trans (if_pos (by have := beq_iff_eq.1 q2; omega)))
    clear hmo
    go_enter Tryz.func15, Tryz.ntmps15
    go_wp2_with fail
    rw [← HW0.out]
    clear HW0
    refine calls_below (HIS.out _ _ (HV.out _ (Below.refl _ _))) ?_
    intro w1 hb1
    have hz1 := bl_below HZ0.out hb1
    obtain ⟨⟨k0, k1, k2, k3, k4, k5⟩, -⟩ := blc6 hz1
    have hlz := bl_lt hz1
    go_wp2_with fail
    refine calls_below (hHas.out _ _ (HV.out _ hb1)) ?_
    intro w2 hb2
    replace hb2 := below_trans hb1 hb2
    clear hz1 k0 k1 k2 k3 k4 k5 hlz
    have hz1 := bl_below HZ0.out hb2
    obtain ⟨⟨k0, k1, k2, k3, k4, k5⟩, -⟩ := blc6 hz1
    have hlz := bl_lt hz1
    go_wp2_with fail
    refine calls_below (Rfailed_any 7 _) ?_
    intro w9 hb9
    have hb9' := below_trans hb2 hb9
    have hm9 := bl_below HM0.out hb9'
    have hl9 := bl_lt hm9
    obtain ⟨⟨d0, d1, d2, d3, d4, d5, d6, d7, d8, d9, d10, d11, d12, d13⟩, fz⟩ := blc14 hm9
    go_wp2
    exact ret_c Tryz.results15 (w.heap.size + 1) 35 _ _ rfl (put14_all hm9) Tryz.underlying35 rfl sizeMade rfl ⟨_, rfl, by rw [HN.out]; exact MadeR_err 7, put14_below (below_trans HB0.out hb9') (by omega)⟩
  have HN : Hid (formR x (doubleM x (m : Int)) = ⟨{ x with way := x.way ++ [l] }, 0, l, [], 0⟩) := HF.out.trans (hmo.trans (if_neg (by have := beq_eq_false_iff_ne.1 q2; omega)))
  clear hmo
  go_enter Tryz.func15, Tryz.ntmps15
  go_wp2_with fail
  rw [← HW0.out]
  clear HW0
  refine calls_below (HIS.out _ _ (HV.out _ (Below.refl _ _))) ?_
  intro w1 hb1
  have hz1 := bl_below HZ0.out hb1
  obtain ⟨⟨k0, k1, k2, k3, k4, k5⟩, -⟩ := blc6 hz1
  have hlz := bl_lt hz1
  go_wp2_with fail
  refine calls_below (hHas.out _ _ (HV.out _ hb1)) ?_
  intro w2 hb2
  replace hb2 := below_trans hb1 hb2
  clear hz1 k0 k1 k2 k3 k4 k5 hlz
  have hz1 := bl_below HZ0.out hb2
  obtain ⟨⟨k0, k1, k2, k3, k4, k5⟩, -⟩ := blc6 hz1
  have hlz := bl_lt hz1
  obtain ⟨c0, c1, c2, c3, c4⟩ := HCL.out _ hb2
  have hbb := World.block_lt_of_cell? _ _ c0
  go_upto_region 8 with fail
  clear c0 c1 c2 c3 c4 hbb
  obtain ⟨w4, hw4⟩ : ∃ w4, w4 = w2.alloc (.cells #[.int .i64 l.id, .int .i64 l.fr, .int .i64 l.to, .int .i64 l.rd, .string l.data] 33) := ⟨_, rfl⟩
  have HB4 : Hid (Below w0.heap.size w0 w4) := by rw [hw4]; exact below_alloc hb2 _
  have HGL : Hid (w4.heap[w2.heap.size]? = some (.cells #[.int .i64 l.id, .int .i64 l.fr, .int .i64 l.to, .int .i64 l.rd, .string l.data] 33 (0, 0))) := by rw [hw4]; exact bl_new _ _
  have HLN : Hid (w.heap.size + 2 ≤ w2.heap.size) := by show _ ≤ _; have h1 := HS0.out; have h2 := (hb2).size; omega
  have HLS : Hid (w2.heap.size < w4.heap.size) := by rw [hw4]; show _ < _; simp
  rw [← hw4]
  clear hw4 k0 k1 k2 k3 k4 k5 hlz hz1
  have HG4 := Lib.hid (bl_below HZ0.out HB4.out)
  have HM4 := Lib.hid (bl_below HM0.out HB4.out)
  have HR4 := Lib.hid (HWW.out.below (below_trans HB0.out HB4.out))
  refine wp_st 39 (by rfl) fun f0 hf0 => ?_
  refine wp_cut (fun a wx => ∃ f' u, a = st 39 f' ∧ f' 2 = .pointer (some ⟨w.heap.size, 0, none⟩) ∧ f' 4 = .pointer (some ⟨w.heap.size + 1, 0, none⟩) ∧ f' 5 = .pointer (some ⟨w2.heap.size, 0, none⟩) ∧ Hid (Own wx w4.heap.size 33 u (x.way ++ [l])) ∧ Hid (wx.heap[w.heap.size]? = some (.cells #[.int .i64 x.nodes, .int .i64 x.now, .int .i64 x.next, u, .slice AC x.cuts.length cC, .slice AT x.timers.length cT] 26 (0, 0))) ∧ Hid (Below w.heap.size w4 wx) ∧ Hid (∀ k o, k ≠ w.heap.size → w4.heap[k]? = some o → wx.heap[k]? = some o)) ?rest ?first
  case first =>
    intro J K' hJ hK'
    exact putDouble x f0 w4 w.heap.size (some ⟨bb, off, none⟩) AC AT cW cC cT w2.heap.size l _ K' _ ((hf0 4).trans rfl) ((hf0 2).trans rfl) ((hf0 5).trans rfl) HG4 HGL (by have := HLN.out; omega) HR4 (by omega)
      (fun a w' ⟨f', u, he, h1, h2, h3, hO, hG, hB, hF⟩ => hK' _ _ (Met.intro (hJ _ _ ⟨f', u, he, h1, h2, h3, hO, hG, hB, hF⟩)))
  case rest =>
    rintro a' w5 ⟨f', u, rfl, h1, h2, h3, HO, HG, HB, HF⟩
    rw [show st 39 f' = ⟨#[f' 0, f' 1, f' 2, f' 3, f' 4, f' 5, f' 6, f' 7, f' 8, f' 9, f' 10, f' 11, f' 12, f' 13, f' 14, f' 15, f' 16, f' 17, f' 18, f' 19, f' 20, f' 21, f' 22, f' 23, f' 24, f' 25, f' 26, f' 27, f' 28, f' 29, f' 30, f' 31, f' 32, f' 33, f' 34, f' 35, f' 36, f' 37, f' 38], []⟩ by rfl, h1, h2, h3]
    obtain ⟨A, c, rfl, hc, hR⟩ := HO.out.slice
    have HC9 := Lib.hid hc
    have hm5 := HF.out (w.heap.size + 1) _ (by omega) HM4.out
    have hl5 := HF.out w2.heap.size _ (by have := HLN.out; omega) HGL.out
    obtain ⟨⟨k0, k1, k2, k3, k4, k5⟩, f0, f1, f2, f3, f4, f5⟩ := blc6 HG.out
    have hlg := bl_lt HG.out
    obtain ⟨⟨d0, d1, d2, d3, d4, d5, d6, d7, d8, d9, d10, d11, d12, d13⟩, fz⟩ := blc14 hm5
    have hlm := bl_lt hm5
    obtain ⟨⟨g0, g1, g2, g3, g4⟩, -⟩ := blc5 hl5
    have hll5 := bl_lt hl5
    have n1 : ¬ w2.heap.size = w.heap.size := by have := HLN.out; omega
    have n2 : ¬ w2.heap.size = w.heap.size + 1 := by have := HLN.out; omega
    have HM5 := Lib.hid hm5
    have HB5 := Lib.hid (HB0.out.trans ((HB4.out.mono (by have := HS0.out; omega)).trans HB.out))
    have HLT : Hid (w.heap.size + 1 < w4.heap.size) := by show _ < _; have := HLN.out; have := HLS.out; omega
    clear hf0 f0 h1 h2 h3 hR hc hm5 hl5
    go_wp2
    have hbl := HB5.out
    have hq := HLT.out
    exact ret_c Tryz.results15 (w.heap.size + 1) 35 _ _ rfl (put14_all HM5.out) Tryz.underlying35 rfl sizeMade rfl ⟨_, rfl, by
      rw [HN.out]
      exact ⟨A, c, AC, cC, AT, cT, none, 0, by simp, .inr ⟨_, (by omega), Own.put14 HO.out (by omega)⟩, .inl ⟨rfl, rfl⟩, .inl ⟨rfl, rfl⟩, ⟨_, Nat.le_refl _, Own.nil _ _ _⟩⟩, put14_below hbl (by omega)⟩
set_option maxHeartbeats 4000000 in
set_option maxRecDepth 100000 in
theorem RDelay_rows (x : Nt) (i n : Int) (w : World) (AW AC AT : Option Addr) (cW cC cT : Nat) (hW : Rd w AW x.way) (hC : Rd w AC x.cuts) (hT : Rd w AT x.timers) (hcap : x.way.length ≤ cW) (hlc : x.cuts.length ≤ 10000000) (hlw : x.way.length ≤ 10000000) (hlt : x.timers.length ≤ 10000000) :
    Calls Tryz.prog 17 #[.agg #[.int .i64 x.nodes, .int .i64 x.now, .int .i64 x.next, .slice AW x.way.length cW, .slice AC x.cuts.length cC, .slice AT x.timers.length cT], .int .i64 i, .int .i64 n] w fun e w' => ∃ v, e = .returned v ∧ MadeR w.heap.size w' x AW cW AC cC AT cT v (formR x (delayM x i n)) ∧ Below w.heap.size w w' := by
  obtain ⟨w0, hw0⟩ : ∃ w0, w0 = (w.alloc (.cells #[.int .i64 x.nodes, .int .i64 x.now, .int .i64 x.next, .slice AW x.way.length cW, .slice AC x.cuts.length cC, .slice AT x.timers.length cT] 26)).alloc (.cells #[.int .i64 0, .int .i64 0, .int .i64 0, .slice none 0 0, .slice none 0 0, .slice none 0 0, .int .i64 0, .int .i64 0, .int .i64 0, .int .i64 0, .int .i64 0, .string ⟨#[]⟩, .slice none 0 0, .int .i64 0] 35) := ⟨_, rfl⟩
  obtain ⟨hb0, hz0, hm0, hs0⟩ := made_start hw0
  have HV : Hid (∀ W, Below w0.heap.size w0 W → NetV W (.agg #[.int .i64 x.nodes, .int .i64 x.now, .int .i64 x.next, .slice AW x.way.length cW, .slice AC x.cuts.length cC, .slice AT x.timers.length cT]) x) := fun W hb => ⟨AW, cW, AC, cC, AT, cT, rfl, hW.below (below_trans hb0 hb), hC.below (below_trans hb0 hb), hT.below (below_trans hb0 hb)⟩
  have his := fun (v : Value) (w : World) (hV : NetV w v x) => RIs_any x v w hV hlc hlw hlt
  have HB0 := Lib.hid hb0
  have HZ0 := Lib.hid hz0
  have HM0 := Lib.hid hm0
  have HS0 := Lib.hid hs0
  have HW0 := Lib.hid hw0
  have HC := Lib.hid (hC.below hb0)
  have HT := Lib.hid (hT.below hb0)
  have HWW := Lib.hid hW
  have HTW := Lib.hid hT
  have HCW := Lib.hid hC
  clear hb0 hz0 hm0 hs0 hw0 hW hC hT
  cases hc : checkB x
  · rw [hc] at his
    have HIS := Lib.hid his
    have HN : Hid (formR x (delayM x i n) = errR 2) := if_pos hc
    clear his hc
    go_enter Tryz.func17, Tryz.ntmps17
    go_wp2_with fail
    rw [← HW0.out]
    clear HW0
    refine calls_below (HIS.out _ _ (HV.out _ (Below.refl _ _))) ?_
    intro w1 hb1
    have hz1 := bl_below HZ0.out hb1
    obtain ⟨⟨k0, k1, k2, k3, k4, k5⟩, -⟩ := blc6 hz1
    have hlz := bl_lt hz1
    go_wp2_with fail
    refine calls_below (Rfailed_any 2 _) ?_
    intro w9 hb9
    have hb9' := below_trans hb1 hb9
    have hm9 := bl_below HM0.out hb9'
    have hl9 := bl_lt hm9
    obtain ⟨⟨d0, d1, d2, d3, d4, d5, d6, d7, d8, d9, d10, d11, d12, d13⟩, fz⟩ := blc14 hm9
    go_wp2
    exact ret_c Tryz.results17 (w.heap.size + 1) 35 _ _ rfl (put14_all hm9) Tryz.underlying35 rfl sizeMade rfl ⟨_, rfl, by rw [HN.out]; exact MadeR_err 2, put14_below (below_trans HB0.out hb9') (by omega)⟩
  rw [hc] at his
  have HIS := Lib.hid his
  have HF : Hid (formR x (delayM x i n) = delayM x i n) := if_neg (by rw [hc]; decide)
  have HOK : Hid (Ok x) := (ok_iff x).1 hc
  clear his hc
  have hhas := fun (v : Value) (w : World) (hV : NetV w v x) => Rhas_any x i v w hV
  cases hh : hasB x.way.length i
  · rw [hh] at hhas
    have hHas := Lib.hid hhas
    have HN : Hid (formR x (delayM x i n) = errR 4) := HF.out.trans (if_pos hh)
    clear hhas hh
    go_enter Tryz.func17, Tryz.ntmps17
    go_wp2_with fail
    rw [← HW0.out]
    clear HW0
    refine calls_below (HIS.out _ _ (HV.out _ (Below.refl _ _))) ?_
    intro w1 hb1
    have hz1 := bl_below HZ0.out hb1
    obtain ⟨⟨k0, k1, k2, k3, k4, k5⟩, -⟩ := blc6 hz1
    have hlz := bl_lt hz1
    go_wp2_with fail
    refine calls_below (hHas.out _ _ (HV.out _ hb1)) ?_
    intro w2 hb2
    replace hb2 := below_trans hb1 hb2
    clear hz1 k0 k1 k2 k3 k4 k5 hlz
    have hz1 := bl_below HZ0.out hb2
    obtain ⟨⟨k0, k1, k2, k3, k4, k5⟩, -⟩ := blc6 hz1
    have hlz := bl_lt hz1
    go_wp2_with fail
    refine calls_below (Rfailed_any 4 _) ?_
    intro w9 hb9
    have hb9' := below_trans hb2 hb9
    have hm9 := bl_below HM0.out hb9'
    have hl9 := bl_lt hm9
    obtain ⟨⟨d0, d1, d2, d3, d4, d5, d6, d7, d8, d9, d10, d11, d12, d13⟩, fz⟩ := blc14 hm9
    go_wp2
    exact ret_c Tryz.results17 (w.heap.size + 1) 35 _ _ rfl (put14_all hm9) Tryz.underlying35 rfl sizeMade rfl ⟨_, rfl, by rw [HN.out]; exact MadeR_err 4, put14_below (below_trans HB0.out hb9') (by omega)⟩
  rw [hh] at hhas
  have hHas := Lib.hid hhas
  obtain ⟨m, hm, rfl⟩ : ∃ m : Nat, m < x.way.length ∧ i = (m : Int) := by
    have h := hh
    simp only [hasB, Bool.and_eq_true, decide_eq_true_eq] at h
    obtain ⟨m, rfl⟩ := Int.eq_ofNat_of_zero_le h.1
    exact ⟨m, by omega, rfl⟩
  obtain ⟨bb, off, l, rfl, hxl, c0, c1, c2, c3, c4⟩ := HWW.out.lt m hm
  have hll : x.way[m]? = some l := hxl.out
  have hml : ((m : Int)).toNat = m := rfl
  have HCL : Hid (∀ W, Below w0.heap.size w0 W → W.cell? ⟨bb, off + m * 5, none⟩ = some (.int .i64 l.id) ∧ W.cell? ⟨bb, off + m * 5 + 1, none⟩ = some (.int .i64 l.fr) ∧ W.cell? ⟨bb, off + m * 5 + 2, none⟩ = some (.int .i64 l.to) ∧ W.cell? ⟨bb, off + m * 5 + 3, none⟩ = some (.int .i64 l.rd) ∧ W.cell? ⟨bb, off + m * 5 + 4, none⟩ = some (.string l.data)) := fun W hb =>
    ⟨cell_below (below_trans HB0.out hb) c0, cell_below (below_trans HB0.out hb) c1, cell_below (below_trans HB0.out hb) c2, cell_below (below_trans HB0.out hb) c3, cell_below (below_trans HB0.out hb) c4⟩
  clear hhas hxl c0 c1 c2 c3 c4
  have hmo : delayM x (m : Int) n = if n < 0 ∨ 1000 < n then errR 1 else ⟨{ x with way := x.way.set m { l with rd := x.now + n } }, 0, { l with rd := x.now + n }, [], 0⟩ := by unfold delayM; rw [if_neg (by rw [hh]; decide), hml, hll]
  clear hh hml
  cases q1 : decide (n < 0)
  rotate_left 1
  · have HN : Hid (formR x (delayM x (m : Int) n) = errR 1) := HF.out.trans (hmo.trans (if_pos (.inl (of_decide_eq_true q1))))
    clear hmo hll
    go_enter Tryz.func17, Tryz.ntmps17
    go_wp2_with fail
    rw [← HW0.out]
    clear HW0
    refine calls_below (HIS.out _ _ (HV.out _ (Below.refl _ _))) ?_
    intro w1 hb1
    have hz1 := bl_below HZ0.out hb1
    obtain ⟨⟨k0, k1, k2, k3, k4, k5⟩, -⟩ := blc6 hz1
    have hlz := bl_lt hz1
    go_wp2_with fail
    refine calls_below (hHas.out _ _ (HV.out _ hb1)) ?_
    intro w2 hb2
    replace hb2 := below_trans hb1 hb2
    clear hz1 k0 k1 k2 k3 k4 k5 hlz
    have hz1 := bl_below HZ0.out hb2
    obtain ⟨⟨k0, k1, k2, k3, k4, k5⟩, -⟩ := blc6 hz1
    have hlz := bl_lt hz1
    go_wp2_with fail
    refine calls_below (Rfailed_any 1 _) ?_
    intro w9 hb9
    have hb9' := below_trans hb2 hb9
    have hm9 := bl_below HM0.out hb9'
    have hl9 := bl_lt hm9
    obtain ⟨⟨d0, d1, d2, d3, d4, d5, d6, d7, d8, d9, d10, d11, d12, d13⟩, fz⟩ := blc14 hm9
    go_wp2
    exact ret_c Tryz.results17 (w.heap.size + 1) 35 _ _ rfl (put14_all hm9) Tryz.underlying35 rfl sizeMade rfl ⟨_, rfl, by rw [HN.out]; exact MadeR_err 1, put14_below (below_trans HB0.out hb9') (by omega)⟩
  cases q2 : decide (1000 < n)
  rotate_left 1
  · have HN : Hid (formR x (delayM x (m : Int) n) = errR 1) := HF.out.trans (hmo.trans (if_pos (.inr (of_decide_eq_true q2))))
    clear hmo hll
    go_enter Tryz.func17, Tryz.ntmps17
    go_wp2_with fail
    rw [← HW0.out]
    clear HW0
    refine calls_below (HIS.out _ _ (HV.out _ (Below.refl _ _))) ?_
    intro w1 hb1
    have hz1 := bl_below HZ0.out hb1
    obtain ⟨⟨k0, k1, k2, k3, k4, k5⟩, -⟩ := blc6 hz1
    have hlz := bl_lt hz1
    go_wp2_with fail
    refine calls_below (hHas.out _ _ (HV.out _ hb1)) ?_
    intro w2 hb2
    replace hb2 := below_trans hb1 hb2
    clear hz1 k0 k1 k2 k3 k4 k5 hlz
    have hz1 := bl_below HZ0.out hb2
    obtain ⟨⟨k0, k1, k2, k3, k4, k5⟩, -⟩ := blc6 hz1
    have hlz := bl_lt hz1
    go_wp2_with fail
    refine calls_below (Rfailed_any 1 _) ?_
    intro w9 hb9
    have hb9' := below_trans hb2 hb9
    have hm9 := bl_below HM0.out hb9'
    have hl9 := bl_lt hm9
    obtain ⟨⟨d0, d1, d2, d3, d4, d5, d6, d7, d8, d9, d10, d11, d12, d13⟩, fz⟩ := blc14 hm9
    go_wp2
    exact ret_c Tryz.results17 (w.heap.size + 1) 35 _ _ rfl (put14_all hm9) Tryz.underlying35 rfl sizeMade rfl ⟨_, rfl, by rw [HN.out]; exact MadeR_err 1, put14_below (below_trans HB0.out hb9') (by omega)⟩
  have n0 : 0 ≤ n := by have := of_decide_eq_false q1; omega
  have n1 : n ≤ 1000 := by have := of_decide_eq_false q2; omega
  obtain ⟨l', hl'⟩ : ∃ l' : Lt, l' = { l with rd := x.now + n } := ⟨_, rfl⟩
  have HN : Hid (formR x (delayM x (m : Int) n) = ⟨{ x with way := x.way.set m l' }, 0, l', [], 0⟩) := HF.out.trans (hmo.trans (by rw [if_neg (by omega), hl']))
  have nx0 : 0 ≤ x.now := HOK.out.t0
  have nx1 : x.now ≤ 1099511627776 := HOK.out.t1
  have HLL := Lib.hid hll
  have HL' := Lib.hid hl'
  clear hmo hll hl'
  go_enter Tryz.func17, Tryz.ntmps17
  go_wp2_with fail
  rw [← HW0.out]
  clear HW0
  refine calls_below (HIS.out _ _ (HV.out _ (Below.refl _ _))) ?_
  intro w1 hb1
  have hz1 := bl_below HZ0.out hb1
  obtain ⟨⟨k0, k1, k2, k3, k4, k5⟩, -⟩ := blc6 hz1
  have hlz := bl_lt hz1
  go_wp2_with fail
  refine calls_below (hHas.out _ _ (HV.out _ hb1)) ?_
  intro w2 hb2
  replace hb2 := below_trans hb1 hb2
  clear hz1 k0 k1 k2 k3 k4 k5 hlz
  have hz1 := bl_below HZ0.out hb2
  obtain ⟨⟨k0, k1, k2, k3, k4, k5⟩, -⟩ := blc6 hz1
  have hlz := bl_lt hz1
  go_upto_region 7 with fail
  go_wp2_with (at_builtin; refine hid_stop ?_)
  change wpList _ _ _ _ _ (w2.alloc _)
  refine wpList_app _ w2.heap.size rfl (.tmp 26) (.tmp 28) 22 33 _ 48 rfl Tryz.underlying22 infoW rfl (by decide) (by decide) (.slice (some ⟨w2.heap.size, 0, none⟩) 0 0) [] x.way (some ⟨bb, off, none⟩) cW rfl rfl (Own.fresh w2 _ _ _ rfl (Nat.le_refl _)) ?hR ?hB ?hL ?_
  case hR => exact HWW.out.below (below_alloc (below_trans HB0.out hb2) _)
  case hB => simp
  case hL => simp; omega
  intro v1 w6 ho hg hat
  have hbw6 : Below w2.heap.size w2 w6 := (below_alloc (Below.refl _ w2) (.cells #[] 33)).grown hg (by simp) (fun k hk => by cases hk; exact Nat.le_refl _)
  have HB6 := Lib.hid (below_trans hb2 hbw6)
  have ho' : Own w6 w2.heap.size 33 v1 x.way := ho
  obtain ⟨g9, c9, rfl⟩ := own_row ho' (by omega)
  obtain ⟨cur, hgc, -⟩ := ho'.open
  obtain ⟨bq, oq, l2, e9, hx2, b0, b1, b2, b3, b4⟩ := ho'.rd.lt m hm
  cases e9
  obtain rfl : l2 = l := Option.some.inj (hx2.out.symm.trans HLL.out)
  simp only [Nat.zero_add] at b0 b1 b2 b3 b4
  have fz3 := bl_frozen hgc (m * 5 + 3)
  have hg9 := bl_lt hgc
  have hg9b := (ho'.lt g9 rfl).1
  have HCP : Hid (x.way.length ≤ c9) := by
    obtain ⟨_, _, e, h, -⟩ := ho'.slice
    cases e
    exact h
  have HO6 := Lib.hid ho'
  have hsz : w.heap.size + 2 ≤ w2.heap.size := by have h1 := HS0.out; have h2 := hb2.size; omega
  have n3 : ¬ g9 = w.heap.size := by omega
  have n4 : ¬ w.heap.size = g9 := by omega
  have n5 : ¬ g9 = w.heap.size + 1 := by omega
  have n6 : ¬ w.heap.size + 1 = g9 := by omega
  have hq0 : (0 : Int) ≤ (m : Int) := by omega
  have hq1 : (m : Int) < (x.way.length : Int) := by omega
  have HSZ := Lib.hid hsz
  have HG9 := Lib.hid hg9b
  clear ho ho' hg hat hgc hx2 k0 k1 k2 k3 k4 k5 hlz hz1 hbw6 hsz hg9b
  have hz6 := bl_below HZ0.out HB6.out
  have hm6 := bl_below HM0.out HB6.out
  obtain ⟨⟨k0, k1, k2, k3, k4, k5⟩, f0, f1, f2, f3, f4, f5⟩ := blc6 hz6
  have hlz := bl_lt hz6
  obtain ⟨⟨d0, d1, d2, d3, d4, d5, d6, d7, d8, d9, d10, d11, d12, d13⟩, fz⟩ := blc14 hm6
  have hlm := bl_lt hm6
  have HM6 := Lib.hid hm6
  clear hz6 hm6 hb1 hb2
  go_upto_region 9 with fail
  refine wp_still_tail 7 (by kernel_rfl) (by kernel_rfl) ?_
  simp only [List.take_succ_cons, List.take_zero, List.drop_succ_cons, List.drop_zero]
  repeat still_step
  refine wpStill_nil ?_
  go_wp2
  have hq1 := HSZ.out
  have hq2 := HG9.out
  have hfar := bl_far (bl_far HM6.out (p := ⟨w.heap.size, 3, none⟩) (by simp) (.slice (some ⟨g9, 0, none⟩) x.way.length c9)) (p := ⟨g9, m * 5 + 3, none⟩) n6 (.int .i64 (x.now + n))
  have hbl : Below w.heap.size w ((w6.setCell ⟨w.heap.size, 3, none⟩ (.slice (some ⟨g9, 0, none⟩) x.way.length c9)).setCell ⟨g9, m * 5 + 3, none⟩ (.int .i64 (x.now + n))) := ((below_trans HB0.out HB6.out).setCell (Nat.le_refl _) _).setCell (by show w.heap.size ≤ g9; omega) _
  have ho7 : Own ((w6.setCell ⟨w.heap.size, 3, none⟩ (.slice (some ⟨g9, 0, none⟩) x.way.length c9)).setCell ⟨g9, m * 5 + 3, none⟩ (.int .i64 (x.now + n))) w2.heap.size 33 (.slice (some ⟨g9, 0, none⟩) x.way.length c9) (x.way.set m l') :=
    (HO6.out.far (p := ⟨w.heap.size, 3, none⟩) (by show w.heap.size < w2.heap.size; omega) _).store m 3 l2 l' (.int .i64 (x.now + n)) (by decide) HLL.out (by rw [HL'.out]; rfl)
  have ho7L : Own ((w6.setCell ⟨w.heap.size, 3, none⟩ (.slice (some ⟨g9, 0, none⟩) x.way.length c9)).setCell ⟨g9, m * 5 + 3, none⟩ (.int .i64 (x.now + n))) w2.heap.size 33 (.slice (some ⟨g9, 0, none⟩) (x.way.set m l').length c9) (x.way.set m l') := by rw [List.length_set]; exact ho7
  have HCPS : Hid ((x.way.set m l').length ≤ c9) := by show _ ≤ _; rw [List.length_set]; exact HCP.out
  exact ret_c Tryz.results17 (w.heap.size + 1) 35 _ _ rfl (bl_drew (put14_all hfar)) Tryz.underlying35 rfl sizeMade rfl ⟨_, rfl, by
    rw [HN.out]
    exact ⟨some ⟨g9, 0, none⟩, c9, AC, cC, AT, cT, none, 0, by rw [HL'.out]; simp, .inr ⟨_, (by omega), Own.drew (Own.put14 ho7L (by omega))⟩, .inl ⟨rfl, rfl⟩, .inl ⟨rfl, rfl⟩, ⟨_, Nat.le_refl _, Own.nil _ _ _⟩⟩, (put14_below hbl (by omega)).drew⟩
end Go.Proofs.YthlbmcfliejdiaaGreat
end
