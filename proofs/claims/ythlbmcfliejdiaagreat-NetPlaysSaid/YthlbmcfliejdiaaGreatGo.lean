/- The reference's done and Do, row by row. (Printed by wip/gen_refdo.py.). The reference's Do, row by row. (Printed by wip/gen_refdo.py.). The reference's Do, for a network whose rows are the call's own. The reference's New, with the very value; Audit of a wrong number of nodes. wp_mix with a fork: two effects that may come in either order. A log in memory, element by element. The program's same; the reference's SameSeen and SameLog. (Printed by wip/gen_refs.py.). The contract of Audit. The round of the reference's Audit. (Printed by wip/gen_refav.py.). The reference's Audit. The round of the reference's Play. (Printed by wip/gen_refpl.py.). The contract of the reference's Play. (Printed by wip/gen_refpm.py.). -/
import Derived.Test.YthlbmcfliejdiaaGreatGn
import Derived.Laws.Tables
import Derived.Laws.CopyOwn
import Derived.Test.YthlbmcfliejdiaaGreatGj
import Derived.Test.YthlbmcfliejdiaaGreatGh
import Derived.Deep.CutBlock
import Derived.Deep.DeepCutAuto
section
set_option linter.unusedVariables false
set_option linter.unusedSimpArgs false
namespace Go.Proofs.YthlbmcfliejdiaaGreat
open Go.RowKit

section
variable {w w0 : World} {b B : Nat} {a0 a1 a2 a3 a4 a5 a6 a7 a8 a9 a10 a11 a12 a13 : Value}
theorem put14_farM {k : Nat} {o : Obj} (h : w.heap[k]? = some o) (hne : k ≠ b) : (put14 w b a0 a1 a2 a3 a4 a5 a6 a7 a8 a9 a10 a11 a12 a13).heap[k]? = some o := by
  unfold put14
  repeat (refine bl_far ?_ (by exact hne) _)
  exact h
theorem put14_abvM (hb : b < B) : Abv B w (put14 w b a0 a1 a2 a3 a4 a5 a6 a7 a8 a9 a10 a11 a12 a13) := by
  refine ⟨by unfold put14; simp [World.setCell], fun k hk hlt => ?_⟩
  exact put14_farM (Array.getElem?_eq_getElem hlt) (by omega) |>.trans (Array.getElem?_eq_getElem hlt).symm
end
set_option maxHeartbeats 4000000 in
set_option maxRecDepth 100000 in
theorem Rdone_rows (x : Nt) (a : Ac) (w : World) (hok : checkB x = true) (AW AC AT : Option Addr) (cW cC cT : Nat) (hW : Rd w AW x.way) (hC : Rd w AC x.cuts) (hT : Rd w AT x.timers) (hcap : x.way.length ≤ cW) (hlc : x.cuts.length ≤ 10000000) (hlw : x.way.length ≤ 10000000) (hlt : x.timers.length ≤ 10000000) :
    Calls Tryz.prog 55 #[.agg #[.int .i64 x.nodes, .int .i64 x.now, .int .i64 x.next, .slice AW x.way.length cW, .slice AC x.cuts.length cC, .slice AT x.timers.length cT], .agg #[.int .i64 a.k, .int .i64 a.a, .int .i64 a.b, .int .i64 a.n, .string a.data]] w fun e w' => ∃ v, e = .returned v ∧ MadeR w.heap.size w' x AW cW AC cC AT cT v (actM x a) ∧ Below w.heap.size w w' := by
  have hfm : ∀ r, formR x r = r := fun r => if_neg (by rw [hok]; decide)
  obtain ⟨w0, hw0⟩ : ∃ w0, w0 = ((w.alloc (.cells #[.int .i64 x.nodes, .int .i64 x.now, .int .i64 x.next, .slice AW x.way.length cW, .slice AC x.cuts.length cC, .slice AT x.timers.length cT] 26)).alloc (.cells #[.int .i64 a.k, .int .i64 a.a, .int .i64 a.b, .int .i64 a.n, .string a.data] 50)).alloc (.cells #[.int .i64 0, .int .i64 0, .int .i64 0, .slice none 0 0, .slice none 0 0, .slice none 0 0, .int .i64 0, .int .i64 0, .int .i64 0, .int .i64 0, .int .i64 0, .string ⟨#[]⟩, .slice none 0 0, .int .i64 0] 35) := ⟨_, rfl⟩
  have HB0 : Hid (Below w.heap.size w w0) := by rw [hw0]; exact below_alloc (below_alloc (below_alloc (Below.refl _ _) _) _) _
  have HM0 : Hid (w0.heap[w.heap.size + 1 + 1]? = some (.cells #[.int .i64 0, .int .i64 0, .int .i64 0, .slice none 0 0, .slice none 0 0, .slice none 0 0, .int .i64 0, .int .i64 0, .int .i64 0, .int .i64 0, .int .i64 0, .string ⟨#[]⟩, .slice none 0 0, .int .i64 0] 35 (0, 0))) := by rw [hw0]; exact bl_newS (by simp)
  have HS0 : Hid (w0.heap.size = w.heap.size + 3) := by rw [hw0]; show _ = _; simp
  have HW := Lib.hid (hW.below HB0.out)
  have HC := Lib.hid (hC.below HB0.out)
  have HT := Lib.hid (hT.below HB0.out)
  have HFM := Lib.hid hfm
  have HW0 := Lib.hid hw0
  clear hw0 hW hC hT hfm hok
  by_cases h1 : a.k = 1
  · have HN : Hid (actM x a = formR x (sendM x a.a a.b a.data)) := by show _ = _; rw [HFM.out]; unfold actM; simp [h1]

    have e1 : (a.k == 1) = true := beq_iff_eq.2 h1
    clear h1
    go_enter Tryz.func55, Tryz.ntmps55
    go_wp2_with fail
    rw [← HW0.out]
    clear HW0
    refine (RSend_rows x a.a a.b a.data _ AW AC AT cW cC cT HW.out HC.out HT.out hcap (by omega) (by omega) (by omega)).mono ?_
    rintro e wR ⟨vR, rfl, hM, hb⟩
    have HMR := Lib.hid hM
    obtain ⟨AW2, cW2, AC2, cC2, AT2, cT2, AF2, cF2, rfl, -⟩ := hM
    have hm := bl_below HM0.out hb
    obtain ⟨⟨d0, d1, d2, d3, d4, d5, d6, d7, d8, d9, d10, d11, d12, d13⟩, fz⟩ := blc14 hm
    have hlm := bl_lt hm
    have hs0 := HS0.out
    have HM9 := Lib.hid hm
    clear hm
    go_wp2
    exact ret_c Tryz.results55 (w.heap.size + 1 + 1) 35 _ _ rfl (put14_all HM9.out) Tryz.underlying35 rfl sizeMade rfl ⟨_, rfl, by
      rw [HN.out]
      exact HMR.out.abv (by omega) (put14_abvM (by omega)), put14_below (HB0.out.trans (hb.mono (by omega))) (by omega)⟩
  by_cases h2 : a.k = 2
  · have HN : Hid (actM x a = formR x (deliverM x a.n)) := by show _ = _; rw [HFM.out]; unfold actM; simp [h2]
    have e1 : (a.k == 1) = false := beq_eq_false_iff_ne.2 h1
    have e2 : (a.k == 2) = true := beq_iff_eq.2 h2
    clear h1 h2
    go_enter Tryz.func55, Tryz.ntmps55
    go_wp2_with fail
    rw [← HW0.out]
    clear HW0
    refine (RDeliver_rows x a.n _ AW AC AT cW cC cT HW.out HC.out HT.out hcap (by omega) (by omega) (by omega)).mono ?_
    rintro e wR ⟨vR, rfl, hM, hb⟩
    have HMR := Lib.hid hM
    obtain ⟨AW2, cW2, AC2, cC2, AT2, cT2, AF2, cF2, rfl, -⟩ := hM
    have hm := bl_below HM0.out hb
    obtain ⟨⟨d0, d1, d2, d3, d4, d5, d6, d7, d8, d9, d10, d11, d12, d13⟩, fz⟩ := blc14 hm
    have hlm := bl_lt hm
    have hs0 := HS0.out
    have HM9 := Lib.hid hm
    clear hm
    go_wp2
    exact ret_c Tryz.results55 (w.heap.size + 1 + 1) 35 _ _ rfl (put14_all HM9.out) Tryz.underlying35 rfl sizeMade rfl ⟨_, rfl, by
      rw [HN.out]
      exact HMR.out.abv (by omega) (put14_abvM (by omega)), put14_below (HB0.out.trans (hb.mono (by omega))) (by omega)⟩
  by_cases h3 : a.k = 3
  · have HN : Hid (actM x a = formR x (loseM x a.n)) := by show _ = _; rw [HFM.out]; unfold actM; simp [h3]
    have e1 : (a.k == 1) = false := beq_eq_false_iff_ne.2 h1
    have e2 : (a.k == 2) = false := beq_eq_false_iff_ne.2 h2
    have e3 : (a.k == 3) = true := beq_iff_eq.2 h3
    clear h1 h2 h3
    go_enter Tryz.func55, Tryz.ntmps55
    go_wp2_with fail
    rw [← HW0.out]
    clear HW0
    refine (RLose_rows x a.n _ AW AC AT cW cC cT HW.out HC.out HT.out hcap (by omega) (by omega) (by omega)).mono ?_
    rintro e wR ⟨vR, rfl, hM, hb⟩
    have HMR := Lib.hid hM
    obtain ⟨AW2, cW2, AC2, cC2, AT2, cT2, AF2, cF2, rfl, -⟩ := hM
    have hm := bl_below HM0.out hb
    obtain ⟨⟨d0, d1, d2, d3, d4, d5, d6, d7, d8, d9, d10, d11, d12, d13⟩, fz⟩ := blc14 hm
    have hlm := bl_lt hm
    have hs0 := HS0.out
    have HM9 := Lib.hid hm
    clear hm
    go_wp2
    exact ret_c Tryz.results55 (w.heap.size + 1 + 1) 35 _ _ rfl (put14_all HM9.out) Tryz.underlying35 rfl sizeMade rfl ⟨_, rfl, by
      rw [HN.out]
      exact HMR.out.abv (by omega) (put14_abvM (by omega)), put14_below (HB0.out.trans (hb.mono (by omega))) (by omega)⟩
  by_cases h4 : a.k = 4
  · have HN : Hid (actM x a = formR x (doubleM x a.n)) := by show _ = _; rw [HFM.out]; unfold actM; simp [h4]
    have e1 : (a.k == 1) = false := beq_eq_false_iff_ne.2 h1
    have e2 : (a.k == 2) = false := beq_eq_false_iff_ne.2 h2
    have e3 : (a.k == 3) = false := beq_eq_false_iff_ne.2 h3
    have e4 : (a.k == 4) = true := beq_iff_eq.2 h4
    clear h1 h2 h3 h4
    go_enter Tryz.func55, Tryz.ntmps55
    go_wp2_with fail
    rw [← HW0.out]
    clear HW0
    refine (RDouble_rows x a.n _ AW AC AT cW cC cT HW.out HC.out HT.out hcap (by omega) (by omega) (by omega)).mono ?_
    rintro e wR ⟨vR, rfl, hM, hb⟩
    have HMR := Lib.hid hM
    obtain ⟨AW2, cW2, AC2, cC2, AT2, cT2, AF2, cF2, rfl, -⟩ := hM
    have hm := bl_below HM0.out hb
    obtain ⟨⟨d0, d1, d2, d3, d4, d5, d6, d7, d8, d9, d10, d11, d12, d13⟩, fz⟩ := blc14 hm
    have hlm := bl_lt hm
    have hs0 := HS0.out
    have HM9 := Lib.hid hm
    clear hm
    go_wp2
    exact ret_c Tryz.results55 (w.heap.size + 1 + 1) 35 _ _ rfl (put14_all HM9.out) Tryz.underlying35 rfl sizeMade rfl ⟨_, rfl, by
      rw [HN.out]
      exact HMR.out.abv (by omega) (put14_abvM (by omega)), put14_below (HB0.out.trans (hb.mono (by omega))) (by omega)⟩
  by_cases h5 : a.k = 5
  · have HN : Hid (actM x a = formR x (delayM x a.n a.b)) := by show _ = _; rw [HFM.out]; unfold actM; simp [h5]
    have e1 : (a.k == 1) = false := beq_eq_false_iff_ne.2 h1
    have e2 : (a.k == 2) = false := beq_eq_false_iff_ne.2 h2
    have e3 : (a.k == 3) = false := beq_eq_false_iff_ne.2 h3
    have e4 : (a.k == 4) = false := beq_eq_false_iff_ne.2 h4
    have e5 : (a.k == 5) = true := beq_iff_eq.2 h5
    clear h1 h2 h3 h4 h5
    go_enter Tryz.func55, Tryz.ntmps55
    go_wp2_with fail
    rw [← HW0.out]
    clear HW0
    refine (RDelay_rows x a.n a.b _ AW AC AT cW cC cT HW.out HC.out HT.out hcap (by omega) (by omega) (by omega)).mono ?_
    rintro e wR ⟨vR, rfl, hM, hb⟩
    have HMR := Lib.hid hM
    obtain ⟨AW2, cW2, AC2, cC2, AT2, cT2, AF2, cF2, rfl, -⟩ := hM
    have hm := bl_below HM0.out hb
    obtain ⟨⟨d0, d1, d2, d3, d4, d5, d6, d7, d8, d9, d10, d11, d12, d13⟩, fz⟩ := blc14 hm
    have hlm := bl_lt hm
    have hs0 := HS0.out
    have HM9 := Lib.hid hm
    clear hm
    go_wp2
    exact ret_c Tryz.results55 (w.heap.size + 1 + 1) 35 _ _ rfl (put14_all HM9.out) Tryz.underlying35 rfl sizeMade rfl ⟨_, rfl, by
      rw [HN.out]
      exact HMR.out.abv (by omega) (put14_abvM (by omega)), put14_below (HB0.out.trans (hb.mono (by omega))) (by omega)⟩
  by_cases h6 : a.k = 6
  · have HN : Hid (actM x a = formR x (cutM x a.a a.b)) := by show _ = _; rw [HFM.out]; unfold actM; simp [h6]
    have e1 : (a.k == 1) = false := beq_eq_false_iff_ne.2 h1
    have e2 : (a.k == 2) = false := beq_eq_false_iff_ne.2 h2
    have e3 : (a.k == 3) = false := beq_eq_false_iff_ne.2 h3
    have e4 : (a.k == 4) = false := beq_eq_false_iff_ne.2 h4
    have e5 : (a.k == 5) = false := beq_eq_false_iff_ne.2 h5
    have e6 : (a.k == 6) = true := beq_iff_eq.2 h6
    clear h1 h2 h3 h4 h5 h6
    go_enter Tryz.func55, Tryz.ntmps55
    go_wp2_with fail
    rw [← HW0.out]
    clear HW0
    refine (RCut_rows x a.a a.b _ AW AC AT cW cC cT HW.out HC.out HT.out (by omega) (by omega) (by omega)).mono ?_
    rintro e wR ⟨vR, rfl, hM, hb⟩
    have HMR := Lib.hid hM
    obtain ⟨AW2, cW2, AC2, cC2, AT2, cT2, AF2, cF2, rfl, -⟩ := hM
    have hm := bl_below HM0.out hb
    obtain ⟨⟨d0, d1, d2, d3, d4, d5, d6, d7, d8, d9, d10, d11, d12, d13⟩, fz⟩ := blc14 hm
    have hlm := bl_lt hm
    have hs0 := HS0.out
    have HM9 := Lib.hid hm
    clear hm
    go_wp2
    exact ret_c Tryz.results55 (w.heap.size + 1 + 1) 35 _ _ rfl (put14_all HM9.out) Tryz.underlying35 rfl sizeMade rfl ⟨_, rfl, by
      rw [HN.out]
      exact HMR.out.abv (by omega) (put14_abvM (by omega)), put14_below (HB0.out.trans (hb.mono (by omega))) (by omega)⟩
  by_cases h7 : a.k = 7
  · have HN : Hid (actM x a = formR x (healM x a.a a.b)) := by show _ = _; rw [HFM.out]; unfold actM; simp [h7]
    have e1 : (a.k == 1) = false := beq_eq_false_iff_ne.2 h1
    have e2 : (a.k == 2) = false := beq_eq_false_iff_ne.2 h2
    have e3 : (a.k == 3) = false := beq_eq_false_iff_ne.2 h3
    have e4 : (a.k == 4) = false := beq_eq_false_iff_ne.2 h4
    have e5 : (a.k == 5) = false := beq_eq_false_iff_ne.2 h5
    have e6 : (a.k == 6) = false := beq_eq_false_iff_ne.2 h6
    have e7 : (a.k == 7) = true := beq_iff_eq.2 h7
    clear h1 h2 h3 h4 h5 h6 h7
    go_enter Tryz.func55, Tryz.ntmps55
    go_wp2_with fail
    rw [← HW0.out]
    clear HW0
    refine (RHeal_rows x a.a a.b _ AW AC AT cW cC cT HW.out HC.out HT.out (by omega) (by omega) (by omega)).mono ?_
    rintro e wR ⟨vR, rfl, hM, hb⟩
    have HMR := Lib.hid hM
    obtain ⟨AW2, cW2, AC2, cC2, AT2, cT2, AF2, cF2, rfl, -⟩ := hM
    have hm := bl_below HM0.out hb
    obtain ⟨⟨d0, d1, d2, d3, d4, d5, d6, d7, d8, d9, d10, d11, d12, d13⟩, fz⟩ := blc14 hm
    have hlm := bl_lt hm
    have hs0 := HS0.out
    have HM9 := Lib.hid hm
    clear hm
    go_wp2
    exact ret_c Tryz.results55 (w.heap.size + 1 + 1) 35 _ _ rfl (put14_all HM9.out) Tryz.underlying35 rfl sizeMade rfl ⟨_, rfl, by
      rw [HN.out]
      exact HMR.out.abv (by omega) (put14_abvM (by omega)), put14_below (HB0.out.trans (hb.mono (by omega))) (by omega)⟩
  by_cases h8 : a.k = 8
  · have HN : Hid (actM x a = formR x (setM x a.a a.b a.n)) := by show _ = _; rw [HFM.out]; unfold actM; simp [h8]
    have e1 : (a.k == 1) = false := beq_eq_false_iff_ne.2 h1
    have e2 : (a.k == 2) = false := beq_eq_false_iff_ne.2 h2
    have e3 : (a.k == 3) = false := beq_eq_false_iff_ne.2 h3
    have e4 : (a.k == 4) = false := beq_eq_false_iff_ne.2 h4
    have e5 : (a.k == 5) = false := beq_eq_false_iff_ne.2 h5
    have e6 : (a.k == 6) = false := beq_eq_false_iff_ne.2 h6
    have e7 : (a.k == 7) = false := beq_eq_false_iff_ne.2 h7
    have e8 : (a.k == 8) = true := beq_iff_eq.2 h8
    clear h1 h2 h3 h4 h5 h6 h7 h8
    go_enter Tryz.func55, Tryz.ntmps55
    go_wp2_with fail
    rw [← HW0.out]
    clear HW0
    refine (RSet_rows x a.a a.b a.n _ AW AC AT cW cC cT HW.out HC.out HT.out (by omega) (by omega) (by omega)).mono ?_
    rintro e wR ⟨vR, rfl, hM, hb⟩
    have HMR := Lib.hid hM
    obtain ⟨AW2, cW2, AC2, cC2, AT2, cT2, AF2, cF2, rfl, -⟩ := hM
    have hm := bl_below HM0.out hb
    obtain ⟨⟨d0, d1, d2, d3, d4, d5, d6, d7, d8, d9, d10, d11, d12, d13⟩, fz⟩ := blc14 hm
    have hlm := bl_lt hm
    have hs0 := HS0.out
    have HM9 := Lib.hid hm
    clear hm
    go_wp2
    exact ret_c Tryz.results55 (w.heap.size + 1 + 1) 35 _ _ rfl (put14_all HM9.out) Tryz.underlying35 rfl sizeMade rfl ⟨_, rfl, by
      rw [HN.out]
      exact HMR.out.abv (by omega) (put14_abvM (by omega)), put14_below (HB0.out.trans (hb.mono (by omega))) (by omega)⟩
  by_cases h9 : a.k = 9
  · have HN : Hid (actM x a = formR x (stopM x a.a a.b)) := by show _ = _; rw [HFM.out]; unfold actM; simp [h9]
    have e1 : (a.k == 1) = false := beq_eq_false_iff_ne.2 h1
    have e2 : (a.k == 2) = false := beq_eq_false_iff_ne.2 h2
    have e3 : (a.k == 3) = false := beq_eq_false_iff_ne.2 h3
    have e4 : (a.k == 4) = false := beq_eq_false_iff_ne.2 h4
    have e5 : (a.k == 5) = false := beq_eq_false_iff_ne.2 h5
    have e6 : (a.k == 6) = false := beq_eq_false_iff_ne.2 h6
    have e7 : (a.k == 7) = false := beq_eq_false_iff_ne.2 h7
    have e8 : (a.k == 8) = false := beq_eq_false_iff_ne.2 h8
    have e9 : (a.k == 9) = true := beq_iff_eq.2 h9
    clear h1 h2 h3 h4 h5 h6 h7 h8 h9
    go_enter Tryz.func55, Tryz.ntmps55
    go_wp2_with fail
    rw [← HW0.out]
    clear HW0
    refine (RStop_rows x a.a a.b _ AW AC AT cW cC cT HW.out HC.out HT.out (by omega) (by omega) (by omega)).mono ?_
    rintro e wR ⟨vR, rfl, hM, hb⟩
    have HMR := Lib.hid hM
    obtain ⟨AW2, cW2, AC2, cC2, AT2, cT2, AF2, cF2, rfl, -⟩ := hM
    have hm := bl_below HM0.out hb
    obtain ⟨⟨d0, d1, d2, d3, d4, d5, d6, d7, d8, d9, d10, d11, d12, d13⟩, fz⟩ := blc14 hm
    have hlm := bl_lt hm
    have hs0 := HS0.out
    have HM9 := Lib.hid hm
    clear hm
    go_wp2
    exact ret_c Tryz.results55 (w.heap.size + 1 + 1) 35 _ _ rfl (put14_all HM9.out) Tryz.underlying35 rfl sizeMade rfl ⟨_, rfl, by
      rw [HN.out]
      exact HMR.out.abv (by omega) (put14_abvM (by omega)), put14_below (HB0.out.trans (hb.mono (by omega))) (by omega)⟩
  by_cases h10 : a.k = 10
  · have HN : Hid (actM x a = formR x (tickM x)) := by show _ = _; rw [HFM.out]; unfold actM; simp [h10]
    have e1 : (a.k == 1) = false := beq_eq_false_iff_ne.2 h1
    have e2 : (a.k == 2) = false := beq_eq_false_iff_ne.2 h2
    have e3 : (a.k == 3) = false := beq_eq_false_iff_ne.2 h3
    have e4 : (a.k == 4) = false := beq_eq_false_iff_ne.2 h4
    have e5 : (a.k == 5) = false := beq_eq_false_iff_ne.2 h5
    have e6 : (a.k == 6) = false := beq_eq_false_iff_ne.2 h6
    have e7 : (a.k == 7) = false := beq_eq_false_iff_ne.2 h7
    have e8 : (a.k == 8) = false := beq_eq_false_iff_ne.2 h8
    have e9 : (a.k == 9) = false := beq_eq_false_iff_ne.2 h9
    have e10 : (a.k == 10) = true := beq_iff_eq.2 h10
    clear h1 h2 h3 h4 h5 h6 h7 h8 h9 h10
    go_enter Tryz.func55, Tryz.ntmps55
    go_wp2_with fail
    rw [← HW0.out]
    clear HW0
    refine (RTick_rows x  _ AW AC AT cW cC cT HW.out HC.out HT.out (by omega) (by omega) (by omega)).mono ?_
    rintro e wR ⟨vR, rfl, hM, hb⟩
    have HMR := Lib.hid hM
    obtain ⟨AW2, cW2, AC2, cC2, AT2, cT2, AF2, cF2, rfl, -⟩ := hM
    have hm := bl_below HM0.out hb
    obtain ⟨⟨d0, d1, d2, d3, d4, d5, d6, d7, d8, d9, d10, d11, d12, d13⟩, fz⟩ := blc14 hm
    have hlm := bl_lt hm
    have hs0 := HS0.out
    have HM9 := Lib.hid hm
    clear hm
    go_wp2
    exact ret_c Tryz.results55 (w.heap.size + 1 + 1) 35 _ _ rfl (put14_all HM9.out) Tryz.underlying35 rfl sizeMade rfl ⟨_, rfl, by
      rw [HN.out]
      exact HMR.out.abv (by omega) (put14_abvM (by omega)), put14_below (HB0.out.trans (hb.mono (by omega))) (by omega)⟩
  have HN : Hid (actM x a = errR 1) := by show _ = _; unfold actM; simp [h1, h2, h3, h4, h5, h6, h7, h8, h9, h10]
  have e1 : (a.k == 1) = false := beq_eq_false_iff_ne.2 h1
  have e2 : (a.k == 2) = false := beq_eq_false_iff_ne.2 h2
  have e3 : (a.k == 3) = false := beq_eq_false_iff_ne.2 h3
  have e4 : (a.k == 4) = false := beq_eq_false_iff_ne.2 h4
  have e5 : (a.k == 5) = false := beq_eq_false_iff_ne.2 h5
  have e6 : (a.k == 6) = false := beq_eq_false_iff_ne.2 h6
  have e7 : (a.k == 7) = false := beq_eq_false_iff_ne.2 h7
  have e8 : (a.k == 8) = false := beq_eq_false_iff_ne.2 h8
  have e9 : (a.k == 9) = false := beq_eq_false_iff_ne.2 h9
  have e10 : (a.k == 10) = false := beq_eq_false_iff_ne.2 h10
  clear h1 h2 h3 h4 h5 h6 h7 h8 h9 h10
  go_enter Tryz.func55, Tryz.ntmps55
  go_wp2_with fail
  rw [← HW0.out]
  clear HW0
  refine calls_below (Rfailed_any 1 _) ?_
  intro wR hb
  have hm := bl_below HM0.out hb
  obtain ⟨⟨d0, d1, d2, d3, d4, d5, d6, d7, d8, d9, d10, d11, d12, d13⟩, fz⟩ := blc14 hm
  have hlm := bl_lt hm
  have hs0 := HS0.out
  have HM9 := Lib.hid hm
  clear hm
  go_wp2
  exact ret_c Tryz.results55 (w.heap.size + 1 + 1) 35 _ _ rfl (put14_all HM9.out) Tryz.underlying35 rfl sizeMade rfl ⟨_, rfl, by
    rw [HN.out]
    exact MadeR_err 1, put14_below (HB0.out.trans (hb.mono (by omega))) (by omega)⟩
end Go.Proofs.YthlbmcfliejdiaaGreat
end

section
set_option linter.unusedVariables false
set_option linter.unusedSimpArgs false
namespace Go.Proofs.YthlbmcfliejdiaaGreat
open Go.RowKit

theorem stop_store {P : Program} {ops : Array Oper} {Q : Exit → Act → World → Prop} {o : Oper} {rest : List Oper} {a : Act} {w : World} (ty : TypeId) (x y : Operand) (ho : o.op = .store ty x y) (h : Hid (wpList P ops Q (o :: rest) a w)) : wpList P ops Q (o :: rest) a w := h
theorem allocRow_abv {B g : Nat} {w : World} {o : Obj} {cs : Array Value} (hb : g < B) : Abv B w ((w.alloc o).setRow g cs) := by
  refine ⟨by simp [World.setRow], fun k hk hlt => ?_⟩
  rw [setRow_other _ _ _ _ (by omega)]
  exact (bl_alloc (Array.getElem?_eq_getElem hlt) o).trans (Array.getElem?_eq_getElem hlt).symm
theorem sizeSeen : (Tryz.prog.info? 56).map (·.size) = some 20 := by kernel_rfl
/-- What Do returns, row by row. -/
def SeenR (B : Nat) (w' : World) (x : Nt) (aW : Option Addr) (bW : Nat) (aC : Option Addr) (bC : Nat) (aT : Option Addr) (bT : Nat) (v : Value) (y : Nt) (s : Sn) (k : Int) : Prop :=
  ∃ AW cW AC cC AT cT AF cF, v = .agg #[.int .i64 y.nodes, .int .i64 y.now, .int .i64 y.next, .slice AW y.way.length cW, .slice AC y.cuts.length cC, .slice AT y.timers.length cT, .int .i64 s.a.k, .int .i64 s.a.a, .int .i64 s.a.b, .int .i64 s.a.n, .string s.a.data, .int .i64 s.e, .int .i64 s.now, .int .i64 s.l.id, .int .i64 s.l.fr, .int .i64 s.l.to, .int .i64 s.l.rd, .string s.l.data, .slice AF s.ts.length cF, .int .i64 k] ∧ RowA B w' 33 (.slice aW x.way.length bW) (.slice AW y.way.length cW) x.way y.way ∧ RowA B w' 96 (.slice aC x.cuts.length bC) (.slice AC y.cuts.length cC) x.cuts y.cuts ∧
    RowA B w' 86 (.slice aT x.timers.length bT) (.slice AT y.timers.length cT) x.timers y.timers ∧ ∃ B', B ≤ B' ∧ Own w' B' 86 (.slice AF s.ts.length cF) s.ts
set_option maxHeartbeats 4000000 in
set_option maxRecDepth 100000 in
theorem RDo_rows (x : Nt) (a : Ac) (w : World) (AW AC AT : Option Addr) (cW cC cT : Nat) (hW : Rd w AW x.way) (hC : Rd w AC x.cuts) (hT : Rd w AT x.timers) (hcap : x.way.length ≤ cW) (hlc : x.cuts.length ≤ 10000000) (hlw : x.way.length ≤ 10000000) (hlt : x.timers.length ≤ 10000000) :
    Calls Tryz.prog 20 #[.agg #[.int .i64 x.nodes, .int .i64 x.now, .int .i64 x.next, .slice AW x.way.length cW, .slice AC x.cuts.length cC, .slice AT x.timers.length cT], .agg #[.int .i64 a.k, .int .i64 a.a, .int .i64 a.b, .int .i64 a.n, .string a.data]] w fun e w' => ∃ v, e = .returned v ∧ SeenR w.heap.size w' x AW cW AC cC AT cT v (doXR x a) (doSR x a) (doER x) ∧ Below w.heap.size w w' := by
  obtain ⟨w0, hw0⟩ : ∃ w0, w0 = ((w.alloc (.cells #[.int .i64 x.nodes, .int .i64 x.now, .int .i64 x.next, .slice AW x.way.length cW, .slice AC x.cuts.length cC, .slice AT x.timers.length cT] 26)).alloc (.cells #[.int .i64 a.k, .int .i64 a.a, .int .i64 a.b, .int .i64 a.n, .string a.data] 50)).alloc (.cells #[.int .i64 0, .int .i64 0, .int .i64 0, .slice none 0 0, .slice none 0 0, .slice none 0 0, .int .i64 0, .int .i64 0, .int .i64 0, .int .i64 0, .string ⟨#[]⟩, .int .i64 0, .int .i64 0, .int .i64 0, .int .i64 0, .int .i64 0, .int .i64 0, .string ⟨#[]⟩, .slice none 0 0, .int .i64 0] 56) := ⟨_, rfl⟩
  have HB0 : Hid (Below w.heap.size w w0) := by rw [hw0]; exact below_alloc (below_alloc (below_alloc (Below.refl _ _) _) _) _
  have HZ0 : Hid (w0.heap[w.heap.size]? = some (.cells #[.int .i64 x.nodes, .int .i64 x.now, .int .i64 x.next, .slice AW x.way.length cW, .slice AC x.cuts.length cC, .slice AT x.timers.length cT] 26 (0, 0))) := by rw [hw0]; exact bl_alloc (bl_alloc (bl_new _ _) _) _
  have HA0 : Hid (w0.heap[w.heap.size + 1]? = some (.cells #[.int .i64 a.k, .int .i64 a.a, .int .i64 a.b, .int .i64 a.n, .string a.data] 50 (0, 0))) := by rw [hw0]; exact bl_alloc (bl_new2 _ _ _) _
  have HM0 : Hid (w0.heap[w.heap.size + 1 + 1]? = some (.cells #[.int .i64 0, .int .i64 0, .int .i64 0, .slice none 0 0, .slice none 0 0, .slice none 0 0, .int .i64 0, .int .i64 0, .int .i64 0, .int .i64 0, .string ⟨#[]⟩, .int .i64 0, .int .i64 0, .int .i64 0, .int .i64 0, .int .i64 0, .int .i64 0, .string ⟨#[]⟩, .slice none 0 0, .int .i64 0] 56 (0, 0))) := by rw [hw0]; exact bl_newS (by simp)
  have HS0 : Hid (w0.heap.size = w.heap.size + 3) := by rw [hw0]; show _ = _; simp
  have HV : Hid (∀ W, Below w0.heap.size w0 W → NetV W (.agg #[.int .i64 x.nodes, .int .i64 x.now, .int .i64 x.next, .slice AW x.way.length cW, .slice AC x.cuts.length cC, .slice AT x.timers.length cT]) x) := fun W hb => ⟨AW, cW, AC, cC, AT, cT, rfl, hW.below (below_trans HB0.out hb), hC.below (below_trans HB0.out hb), hT.below (below_trans HB0.out hb)⟩
  have HW := Lib.hid (hW.below HB0.out)
  have HC := Lib.hid (hC.below HB0.out)
  have HT := Lib.hid (hT.below HB0.out)
  have his := fun (v : Value) (w : World) (hV : NetV w v x) => RIs_any x v w hV hlc hlw hlt
  have HW0 := Lib.hid hw0
  clear hw0 hW hC hT
  cases hc : checkB x
  · rw [hc] at his
    have HIS := Lib.hid his
    have hx : doXR x a = zNt ∧ doSR x a = zSn ∧ doER x = 2 := by unfold doXR doSR doER; simp [hc]
    rw [hx.1, hx.2.1, hx.2.2]
    clear his hx hc
    go_enter Tryz.func20, Tryz.ntmps20
    go_wp2_with fail
    rw [← HW0.out]
    clear HW0
    refine calls_below (HIS.out _ _ (HV.out _ (Below.refl _ _))) ?_
    intro w1 hb1
    have hm := bl_below HM0.out hb1
    have hlm := bl_lt hm
    have HM9 := Lib.hid hm
    have hs0 := HS0.out
    clear hm
    go_wp2_with ((with_reducible refine stop_store 56 (.tmp 4) (.tmp 9) ?hst ?_); (case hst => rfl))
    change wpList _ _ _ _ _ _
    refine wpList_store_row (by rfl) 56 (.tmp 4) (.tmp 9) (by rfl) (w.heap.size + 1 + 1) _ (by rfl) (by rfl) 56 _ HM9.out (by exact sizeSeen) (by rfl) (by simp [Value.oneCell']) ?_
    go_wp2
    exact ret_c Tryz.results20 (w.heap.size + 1 + 1) 56 #[.int .i64 0, .int .i64 0, .int .i64 0, .slice none 0 0, .slice none 0 0, .slice none 0 0, .int .i64 0, .int .i64 0, .int .i64 0, .int .i64 0, .string ⟨#[]⟩, .int .i64 0, .int .i64 0, .int .i64 0, .int .i64 0, .int .i64 0, .int .i64 0, .string ⟨#[]⟩, .slice none 0 0, .int .i64 2] _ rfl (setRow_heap _ _ _ _ _ _ HM9.out) Tryz.underlying56 rfl sizeSeen rfl ⟨_, rfl, 
      ⟨none, 0, none, 0, none, 0, none, 0, rfl, .inr ⟨_, Nat.le_refl _, Own.nil _ _ _⟩, .inr ⟨_, Nat.le_refl _, Own.nil _ _ _⟩, .inr ⟨_, Nat.le_refl _, Own.nil _ _ _⟩, ⟨_, Nat.le_refl _, Own.nil _ _ _⟩⟩, below_setRow (HB0.out.trans (hb1.mono (by omega))) (by omega) _⟩
  rw [hc] at his
  have HIS := Lib.hid his
  obtain ⟨r, hr⟩ : ∃ r, r = actM x a := ⟨_, rfl⟩
  have hdo : doXR x a = (if r.e = 0 then r.x else x) ∧ doSR x a = (if r.e = 0 then ⟨a, 0, r.x.now, r.l, r.ts⟩ else ⟨a, r.e, x.now, zLt, []⟩) ∧ doER x = 0 := by rw [hr]; unfold doXR doSR doER doX doS; simp [hc]
  have HDN := Lib.hid (fun (w : World) hW hC hT => Rdone_rows x a w hc AW AC AT cW cC cT hW hC hT hcap hlc hlw hlt)
  rw [← hr] at HDN
  rw [hdo.1, hdo.2.1, hdo.2.2]
  clear his hdo hr hc
  by_cases he : r.e = 0
  · rw [if_pos he, if_pos he]
    have q : (r.e != 0) = false := by simp [he]
    have HE := Lib.hid he
    clear he
    go_enter Tryz.func20, Tryz.ntmps20
    go_wp2_with fail
    rw [← HW0.out]
    clear HW0
    refine calls_below (HIS.out _ _ (HV.out _ (Below.refl _ _))) ?_
    intro w1 hb1
    obtain ⟨⟨k0, k1, k2, k3, k4, k5⟩, -⟩ := blc6 (bl_below HZ0.out hb1)
    have hlz := bl_lt (bl_below HZ0.out hb1)
    obtain ⟨⟨m0, m1, m2, m3, m4⟩, -⟩ := blc5 (bl_below HA0.out hb1)
    have hla := bl_lt (bl_below HA0.out hb1)
    go_wp2_with fail
    refine (HDN.out _ (HW.out.below hb1) (HC.out.below hb1) (HT.out.below hb1)).mono ?_
    rintro e wR ⟨vR, rfl, hM, hb2⟩
    obtain ⟨AW2, cW2, AC2, cC2, AT2, cT2, AF2, cF2, rfl, hr1, hr2, hr3, B4, hB4, hr4⟩ := hM
    have hbR := below_trans hb1 hb2
    have HR1 := Lib.hid hr1
    have HR2 := Lib.hid hr2
    have HR3 := Lib.hid hr3
    have HR4 := Lib.hid hr4
    have hsz1 := hb1.size
    have hsz2 := hb2.size
    clear hr1 hr2 hr3 hr4 hb2 k0 k1 k2 k3 k4 k5 hlz m0 m1 m2 m3 m4 hla
    obtain ⟨⟨m0, m1, m2, m3, m4⟩, -⟩ := blc5 (bl_below HA0.out hbR)
    have hla := bl_lt (bl_below HA0.out hbR)
    have hm := bl_below HM0.out hbR
    have hlm := bl_lt hm
    have HM9 := Lib.hid hm
    have hs0 := HS0.out
    have hn1 : ¬ w.heap.size + 1 + 1 = wR.heap.size := by omega
    have hn2 : ¬ wR.heap.size = w.heap.size + 1 + 1 := by omega
    clear hm
    go_upto_region 6 with fail
    go_wp2_with ((with_reducible refine stop_store 56 (.tmp 4) (.tmp 35) ?hst ?_); (case hst => rfl))
    change wpList _ _ _ _ _ _
    refine wpList_store_row (by rfl) 56 (.tmp 4) (.tmp 35) (by rfl) (w.heap.size + 1 + 1) _ (by rfl) (by rfl) 56 _ (bl_alloc HM9.out _) (by exact sizeSeen) (by rfl) (by simp [Value.oneCell']) ?_
    go_wp2
    exact ret_c Tryz.results20 (w.heap.size + 1 + 1) 56 #[.int .i64 r.x.nodes, .int .i64 r.x.now, .int .i64 r.x.next, .slice AW2 r.x.way.length cW2, .slice AC2 r.x.cuts.length cC2, .slice AT2 r.x.timers.length cT2, .int .i64 a.k, .int .i64 a.a, .int .i64 a.b, .int .i64 a.n, .string a.data, .int .i64 0, .int .i64 r.x.now, .int .i64 r.l.id, .int .i64 r.l.fr, .int .i64 r.l.to, .int .i64 r.l.rd, .string r.l.data, .slice AF2 r.ts.length cF2, .int .i64 0] _ rfl (setRow_heap _ _ _ _ _ _ (bl_alloc HM9.out _)) Tryz.underlying56 rfl sizeSeen rfl ⟨_, rfl,
      ⟨AW2, cW2, AC2, cC2, AT2, cT2, AF2, cF2, rfl, HR1.out.abv (by omega) (allocRow_abv (by omega)), HR2.out.abv (by omega) (allocRow_abv (by omega)), HR3.out.abv (by omega) (allocRow_abv (by omega)), ⟨B4, by omega, Own.abv HR4.out hB4 (allocRow_abv (by omega))⟩⟩, below_setRow (below_alloc (HB0.out.trans (hbR.mono (by omega))) _) (by omega) _⟩
  · rw [if_neg he, if_neg he]
    have q : (r.e != 0) = true := by simp [he]
    have HE := Lib.hid he
    clear he
    go_enter Tryz.func20, Tryz.ntmps20
    go_wp2_with fail
    rw [← HW0.out]
    clear HW0
    refine calls_below (HIS.out _ _ (HV.out _ (Below.refl _ _))) ?_
    intro w1 hb1
    obtain ⟨⟨k0, k1, k2, k3, k4, k5⟩, -⟩ := blc6 (bl_below HZ0.out hb1)
    have hlz := bl_lt (bl_below HZ0.out hb1)
    obtain ⟨⟨m0, m1, m2, m3, m4⟩, -⟩ := blc5 (bl_below HA0.out hb1)
    have hla := bl_lt (bl_below HA0.out hb1)
    go_wp2_with fail
    refine (HDN.out _ (HW.out.below hb1) (HC.out.below hb1) (HT.out.below hb1)).mono ?_
    rintro e wR ⟨vR, rfl, hM, hb2⟩
    obtain ⟨AW2, cW2, AC2, cC2, AT2, cT2, AF2, cF2, rfl, hr1, hr2, hr3, B4, hB4, hr4⟩ := hM
    have hbR := below_trans hb1 hb2
    have HR1 := Lib.hid hr1
    have HR2 := Lib.hid hr2
    have HR3 := Lib.hid hr3
    have HR4 := Lib.hid hr4
    have hsz1 := hb1.size
    have hsz2 := hb2.size
    clear hr1 hr2 hr3 hr4 hb2 k0 k1 k2 k3 k4 k5 hlz m0 m1 m2 m3 m4 hla
    obtain ⟨⟨m0, m1, m2, m3, m4⟩, -⟩ := blc5 (bl_below HA0.out hbR)
    have hla := bl_lt (bl_below HA0.out hbR)
    obtain ⟨⟨k0, k1, k2, k3, k4, k5⟩, -⟩ := blc6 (bl_below HZ0.out hbR)
    have hlz := bl_lt (bl_below HZ0.out hbR)
    have hm := bl_below HM0.out hbR
    have hlm := bl_lt hm
    have HM9 := Lib.hid hm
    have hs0 := HS0.out
    have hn1 : ¬ w.heap.size + 1 + 1 = wR.heap.size := by omega
    have hn2 : ¬ wR.heap.size = w.heap.size + 1 + 1 := by omega
    clear hm
    go_upto_region 5 with fail
    go_wp2_with ((with_reducible refine stop_store 56 (.tmp 4) (.tmp 23) ?hst ?_); (case hst => rfl))
    change wpList _ _ _ _ _ _
    refine wpList_store_row (by rfl) 56 (.tmp 4) (.tmp 23) (by rfl) (w.heap.size + 1 + 1) _ (by rfl) (by rfl) 56 _ (bl_alloc HM9.out _) (by exact sizeSeen) (by rfl) (by simp [Value.oneCell']) ?_
    go_wp2
    exact ret_c Tryz.results20 (w.heap.size + 1 + 1) 56 #[.int .i64 x.nodes, .int .i64 x.now, .int .i64 x.next, .slice AW x.way.length cW, .slice AC x.cuts.length cC, .slice AT x.timers.length cT, .int .i64 a.k, .int .i64 a.a, .int .i64 a.b, .int .i64 a.n, .string a.data, .int .i64 r.e, .int .i64 x.now, .int .i64 0, .int .i64 0, .int .i64 0, .int .i64 0, .string ⟨#[]⟩, .slice none 0 0, .int .i64 0] _ rfl (setRow_heap _ _ _ _ _ _ (bl_alloc HM9.out _)) Tryz.underlying56 rfl sizeSeen rfl ⟨_, rfl,
      ⟨AW, cW, AC, cC, AT, cT, none, 0, rfl, .inl ⟨rfl, rfl⟩, .inl ⟨rfl, rfl⟩, .inl ⟨rfl, rfl⟩, ⟨_, Nat.le_refl _, Own.nil _ _ _⟩⟩, below_setRow (below_alloc (HB0.out.trans (hbR.mono (by omega))) _) (by omega) _⟩
end Go.Proofs.YthlbmcfliejdiaaGreat
end

section
set_option linter.unusedVariables false
set_option linter.unusedSimpArgs false
namespace Go.Proofs.YthlbmcfliejdiaaGreat
open Go.RowKit

/-- Do on a network whose rows lie from B on: so do the result's, in every world that keeps the blocks from the call's start on. -/
theorem RDo_own (x : Nt) (a : Ac) (B : Nat) (w : World) (AW AC AT : Option Addr) (cW cC cT : Nat) (hO : NetO w B (.agg #[.int .i64 x.nodes, .int .i64 x.now, .int .i64 x.next, .slice AW x.way.length cW, .slice AC x.cuts.length cC, .slice AT x.timers.length cT]) x) (hB : B ≤ w.heap.size) (hlc : x.cuts.length ≤ 10000000) (hlw : x.way.length ≤ 10000000) (hlt : x.timers.length ≤ 10000000) :
    Calls Tryz.prog 20 #[.agg #[.int .i64 x.nodes, .int .i64 x.now, .int .i64 x.next, .slice AW x.way.length cW, .slice AC x.cuts.length cC, .slice AT x.timers.length cT], .agg #[.int .i64 a.k, .int .i64 a.a, .int .i64 a.b, .int .i64 a.n, .string a.data]] w fun e w' => ∃ AW' cW' AC' cC' AT' cT' AF cF, e = .returned (.agg #[.int .i64 (doXR x a).nodes, .int .i64 (doXR x a).now, .int .i64 (doXR x a).next, .slice AW' (doXR x a).way.length cW', .slice AC' (doXR x a).cuts.length cC', .slice AT' (doXR x a).timers.length cT',
        .int .i64 (doSR x a).a.k, .int .i64 (doSR x a).a.a, .int .i64 (doSR x a).a.b, .int .i64 (doSR x a).a.n, .string (doSR x a).a.data, .int .i64 (doSR x a).e, .int .i64 (doSR x a).now, .int .i64 (doSR x a).l.id, .int .i64 (doSR x a).l.fr, .int .i64 (doSR x a).l.to, .int .i64 (doSR x a).l.rd, .string (doSR x a).l.data, .slice AF (doSR x a).ts.length cF, .int .i64 (doER x)]) ∧
      (∀ W, Abv w.heap.size w' W → NetO W B (.agg #[.int .i64 x.nodes, .int .i64 x.now, .int .i64 x.next, .slice AW x.way.length cW, .slice AC x.cuts.length cC, .slice AT x.timers.length cT]) x → NetO W B (.agg #[.int .i64 (doXR x a).nodes, .int .i64 (doXR x a).now, .int .i64 (doXR x a).next, .slice AW' (doXR x a).way.length cW', .slice AC' (doXR x a).cuts.length cC', .slice AT' (doXR x a).timers.length cT']) (doXR x a)) ∧
      (∀ W, Abv w.heap.size w' W → Own W w.heap.size 86 (.slice AF (doSR x a).ts.length cF) (doSR x a).ts) ∧ Below w.heap.size w w' := by
  obtain ⟨AW1, cW1, AC1, cC1, AT1, cT1, e, h1, h2, h3⟩ := hO
  cases e
  have hcap : x.way.length ≤ cW := by
    obtain ⟨_, _, e, h, -⟩ := h1.slice
    cases e
    exact h
  refine (RDo_rows x a w AW AC AT cW cC cT h1.rd h2.rd h3.rd hcap hlc hlw hlt).mono fun e w' h => ?_
  obtain ⟨v, rfl, ⟨AW', cW', AC', cC', AT', cT', AF, cF, rfl, r1, r2, r3, B4, hB4, r4⟩, hb⟩ := h
  refine ⟨AW', cW', AC', cC', AT', cT', AF, cF, rfl, fun W hA hW => ?_, fun W hA => (Own.abv r4 hB4 hA).weaken hB4, hb⟩
  obtain ⟨AW2, cW2, AC2, cC2, AT2, cT2, e, g1, g2, g3⟩ := hW
  cases e
  exact ⟨AW', cW', AC', cC', AT', cT', rfl, r1.own hA hB g1, r2.own hA hB g2, r3.own hA hB g3⟩
end Go.Proofs.YthlbmcfliejdiaaGreat
end

section
set_option linter.unusedVariables false
set_option linter.unusedSimpArgs false
namespace Go.Proofs.YthlbmcfliejdiaaGreat
open Go.RowKit

theorem RNew_good (n : Int) (w : World) (h0 : 1 ≤ n) (h16 : n ≤ 16) : Calls Tryz.prog 56 #[.int .i64 n] w fun e w' => e = .returned (.agg #[.int .i64 n, .int .i64 0, .int .i64 0, .slice none 0 0, .slice none 0 0, .slice none 0 0, .int .i64 0, .int .i64 0, .int .i64 0, .int .i64 0, .int .i64 0, .string ⟨#[]⟩, .slice none 0 0, .int .i64 0]) ∧ Below w.heap.size w w' := by
  have h1 : ¬ n < 1 := by omega
  have h2 : ¬ 16 < n := by omega
  clear h0 h16
  go_enter Tryz.func56, Tryz.ntmps56
  go_wp2
  exact ret_c Tryz.results56 w.heap.size 35 _ _ rfl (bl_new w _) Tryz.underlying35 rfl sizeMade rfl ⟨rfl, below_alloc (Below.refl _ _) _⟩
theorem RNew_bad (n : Int) (w : World) (h : n < 1 ∨ 16 < n) : Calls Tryz.prog 56 #[.int .i64 n] w fun e w' => e = .returned (.agg #[.int .i64 0, .int .i64 0, .int .i64 0, .slice none 0 0, .slice none 0 0, .slice none 0 0, .int .i64 0, .int .i64 0, .int .i64 0, .int .i64 0, .int .i64 0, .string ⟨#[]⟩, .slice none 0 0, .int .i64 1]) ∧ Below w.heap.size w w' := by
  rcases h with h | h
  · go_enter Tryz.func56, Tryz.ntmps56
    go_wp2_with (go_at_call 40; refine calls_below (Rfailed_any 1 _) ?_; intro w1 hb1; have hz := bl_below (bl_new w (.cells #[.int .i64 0, .int .i64 0, .int .i64 0, .slice none 0 0, .slice none 0 0, .slice none 0 0, .int .i64 0, .int .i64 0, .int .i64 0, .int .i64 0, .int .i64 0, .string ⟨#[]⟩, .slice none 0 0, .int .i64 0] 35)) hb1; have hlz := bl_lt hz; obtain ⟨⟨d0, d1, d2, d3, d4, d5, d6, d7, d8, d9, d10, d11, d12, d13⟩, fz⟩ := blc14 hz)
    exact ret_c Tryz.results56 w.heap.size 35 _ _ rfl (put14_all hz) Tryz.underlying35 rfl sizeMade rfl ⟨rfl, put14_below (below_trans (below_alloc (Below.refl _ _) _) hb1) (Nat.le_refl _)⟩
  · have h1 : ¬ n < 1 := by omega
    go_enter Tryz.func56, Tryz.ntmps56
    go_wp2_with (go_at_call 40; refine calls_below (Rfailed_any 1 _) ?_; intro w1 hb1; have hz := bl_below (bl_new w (.cells #[.int .i64 0, .int .i64 0, .int .i64 0, .slice none 0 0, .slice none 0 0, .slice none 0 0, .int .i64 0, .int .i64 0, .int .i64 0, .int .i64 0, .int .i64 0, .string ⟨#[]⟩, .slice none 0 0, .int .i64 0] 35)) hb1; have hlz := bl_lt hz; obtain ⟨⟨d0, d1, d2, d3, d4, d5, d6, d7, d8, d9, d10, d11, d12, d13⟩, fz⟩ := blc14 hz)
    exact ret_c Tryz.results56 w.heap.size 35 _ _ rfl (put14_all hz) Tryz.underlying35 rfl sizeMade rfl ⟨rfl, put14_below (below_trans (below_alloc (Below.refl _ _) _) hb1) (Nat.le_refl _)⟩
theorem sizeChecked : (Tryz.prog.info? 68).map (·.size) = some 2 := by kernel_rfl
set_option maxHeartbeats 1000000 in
set_option maxRecDepth 100000 in
theorem RAudit_bad (n : Int) (v : Value) (w : World) (h : n < 1 ∨ 16 < n) : Calls Tryz.prog 26 #[.int .i64 n, v] w fun e w' => e = .returned (.agg #[.int .i64 1, .int .i64 0]) ∧ Below w.heap.size w w' := by
  have HN := Lib.hid (fun W => RNew_bad n W h)
  clear h
  go_enter Tryz.func26, Tryz.ntmps26
  go_wp2_with fail
  refine calls_below (HN.out _) ?_
  intro w1 hb1
  have hm := bl_below (bl_new w (.cells #[.int .i64 0, .int .i64 0] 68)) hb1
  have hlm := bl_lt hm
  have d0 := bl_cell hm 0
  have d1 := bl_cell hm 1
  simp at d0 d1
  have f0 := bl_frozen hm 0
  have f1 := bl_frozen hm 1
  have hn1 : ¬ w.heap.size = w1.heap.size := by omega
  have hn2 : ¬ w1.heap.size = w.heap.size := by omega
  have HM := Lib.hid hm
  clear hm
  go_wp2
  refine ret_c Tryz.results26 w.heap.size 68 #[.int .i64 1, .int .i64 0] _ rfl ?_ Tryz.underlying68 rfl sizeChecked rfl ⟨rfl, ?_⟩
  · exact bl_alloc (by simpa using bl_set (bl_set HM.out 0 (.int .i64 1)) 1 (.int .i64 0)) _
  · exact below_alloc (((below_trans (below_alloc (Below.refl _ _) _) hb1).setCell (Nat.le_refl _) _).setCell (Nat.le_refl _) _) _
end Go.Proofs.YthlbmcfliejdiaaGreat
end

section
set_option linter.unusedVariables false
set_option linter.unusedSimpArgs false
namespace Go.Proofs.YthlbmcfliejdiaaGreat
open Go.RowKit

section
variable {P : Program} {Q : Exit → Act → World → Prop} {md : Region.Mode} {C : World → Prop}
theorem eff_op {l : List Oper} {j : Nat} {o : Oper} {a : Act} {w : World} {K : Act → World → Prop} (h0 : l.toArray[j]? = some o) (h : wpList P l.toArray (Exit.then K Q) [o] a w) : wpOp P l.toArray Q j K a w := by
  unfold wpOp
  simp only [h0]
  have h2 := h
  unfold wpList at h2
  split
  · rename_i hw
    simp only [hw, if_true] at h2
    rcases h2 with h2 | h2
    · left
      unfold Oper.wp at *
      generalize (execOp a.eval o).run P w = r at *
      cases r with
      | ok nx w' =>
        cases nx <;> simp only [Oper.upon] at h2 ⊢
        case value u => exact h2
        case skip => exact h2
        case defer d => exact h2
        case enter f args =>
          refine Calls.mono h2 fun e w'' he => ?_
          cases e with
          | returned u => exact he
          | panicked c => exact he
          | outgrown => exact he
        case row row args => exact Rows.mono h2 fun u w'' he => he
      | halt x w' =>
        cases x <;> simp only [Oper.upon] at h2 ⊢
        case panic u => exact h2
    · right
      exact h2
  · rename_i hw
    simp only [hw] at h2
    exact h2
def Region.mixFB (md : Region.Mode) (ops : Array Oper) (n i j : Nat) (s1 s2 : List (Nat × Bool)) : List Nat → Array Bool → Bool
  | [], L => decide (Region.ready md ops L = [i, j]) && !decide (i = n) && !decide (j = n) && !(L.getD n true) && Region.mixUB md ops n s1 (L.setIfInBounds i true) && Region.mixUB md ops n s2 (L.setIfInBounds j true)
  | k :: r, L => (Region.ready md ops L).contains k && Region.free md ops L k && Region.waitsU md ops 40 n k && !decide (k = n) && !(L.getD n true) && Region.mixFB md ops n i j s1 s2 r (L.setIfInBounds k true)
/-- What is shown at the fork: each of the two, and what follows it. -/
def wpFork (P : Program) (l : List Oper) (C : World → Prop) (Q : Exit → Act → World → Prop) (n i j : Nat) (s1 s2 : List (Nat × Bool)) (a : Act) (w : World) : Prop :=
  wpList P l.toArray (Exit.then (fun a' w' => C w' ∧ wpMix P l.toArray C (fun a' w' => wpList P l.toArray Q (l.drop n) a' w') Q (pick l s1) a' w') Q) [l.getD i default] a w ∧
  wpList P l.toArray (Exit.then (fun a' w' => C w' ∧ wpMix P l.toArray C (fun a' w' => wpList P l.toArray Q (l.drop n) a' w') Q (pick l s2) a' w') Q) [l.getD j default] a w
theorem fork_do {l : List Oper} {n i j : Nat} {s1 s2 : List (Nat × Bool)} {a : Act} {w : World}
    (h1 : ∀ K' : Act → World → Prop, (∀ a' w', C w' → wpMix P l.toArray C (fun a' w' => wpList P l.toArray Q (l.drop n) a' w') Q (pick l s1) a' w' → K' a' w') → wpList P l.toArray (Exit.then K' Q) [l.getD i default] a w)
    (h2 : ∀ K' : Act → World → Prop, (∀ a' w', C w' → wpMix P l.toArray C (fun a' w' => wpList P l.toArray Q (l.drop n) a' w') Q (pick l s2) a' w' → K' a' w') → wpList P l.toArray (Exit.then K' Q) [l.getD j default] a w) : wpFork P l C Q n i j s1 s2 a w :=
  ⟨h1 _ (fun _ _ h h' => ⟨h, h'⟩), h2 _ (fun _ _ h h' => ⟨h, h'⟩)⟩
theorem wpAnyG_of_mixF {l : List Oper} {n i j : Nat} {s1 s2 : List (Nat × Bool)} (hsel : Region.noSelect l.toArray = true) (hQ : ∀ (d : Option Tmp) (v : Value) c a w, Q (.panic c) (a.put d v) w → Q (.panic c) a w) (hn : n < l.length) (hi : i < l.length) (hj : j < l.length)
    (h12 : s1.length = s2.length) (hs1 : ∀ p ∈ s1, p.1 < l.length) (hs2 : ∀ p ∈ s2, p.1 < l.length) :
    ∀ (s : List Nat) (L : Array Bool) (a : Act) (w : World), (∀ k ∈ s, k < l.length) → Region.mixFB md l.toArray n i j s1 s2 s L = true → Closed md l.toArray L → C w →
      wpMix P l.toArray C (fun a' w' => wpFork P l C Q n i j s1 s2 a' w') Q (pick l (s.map fun k => (k, true))) a w → wpAnyG P md l.toArray Q C n (s.length + (1 + (s1.length + (l.length - n)))) L a w
  | [], L, a, w, _, hB, hcl, hC, h => by
    have hi0 : l.toArray[i]? = some (l.getD i default) := by simp [List.getD_eq_getElem?_getD, List.getElem?_eq_getElem hi]
    have hj0 : l.toArray[j]? = some (l.getD j default) := by simp [List.getD_eq_getElem?_getD, List.getElem?_eq_getElem hj]
    simp only [Region.mixFB, Bool.and_eq_true, Bool.not_eq_true', decide_eq_false_iff_not, decide_eq_true_eq] at hB
    obtain ⟨⟨⟨⟨⟨hr, hin⟩, hjn⟩, hL⟩, hB1⟩, hB2⟩ := hB
    rw [List.length_nil, Nat.zero_add, Nat.add_comm 1]
    have h' : wpFork P l C Q n i j s1 s2 a w := h
    refine ⟨fun h1 => (by rw [hr] at h1; cases h1), fun k hk => ?_⟩
    have hkr := hk
    rw [hr] at hk
    simp only [List.mem_cons, List.not_mem_nil, or_false] at hk
    rcases hk with rfl | rfl
    · exact wpOp_mono (fun a' w' h' => ⟨fun _ => h'.1, wpAnyG_of_mixT hsel hQ hn s1 _ a' w' hs1 hB1 (hcl.set hkr) h'.1 h'.2⟩) (eff_op hi0 h'.1)
    · rw [h12]
      exact wpOp_mono (fun a' w' h' => ⟨fun _ => h'.1, wpAnyG_of_mixT hsel hQ hn s2 _ a' w' hs2 hB2 (hcl.set hkr) h'.1 h'.2⟩) (eff_op hj0 h'.2)
  | k :: s, L, a, w, hs, hB, hcl, hC, h => by
    have hil : k < l.length := hs k (by simp)
    have h0 : l.toArray[k]? = some (l.getD k default) := by simp [List.getD_eq_getElem?_getD, List.getElem?_eq_getElem hil]
    simp only [Region.mixFB, Bool.and_eq_true, Bool.not_eq_true', decide_eq_false_iff_not] at hB
    obtain ⟨⟨⟨⟨⟨hr, hf⟩, hwt⟩, hin⟩, hL⟩, hB'⟩ := hB
    obtain ⟨v, hy, hK⟩ := h
    have hr' : k ∈ Region.ready md l.toArray L := by simpa using hr
    rw [List.length_cons, show s.length + 1 + (1 + (s1.length + (l.length - n))) = s.length + (1 + (s1.length + (l.length - n))) + 1 by omega]
    exact wpAnyG_firstT h0 (Region.noSelect_spec hsel) (fun c a w => hQ _ _ c a w) (waitsU_T _ _ _ hwt) hin _ L a w hcl hL (Region.free_spec h0 hf) hr' hy hC
      (wpAnyG_of_mixF hsel hQ hn hi hj h12 hs1 hs2 s _ _ w (fun p hp => hs p (List.mem_cons_of_mem _ hp)) hB' (hcl.set hr') hC hK)
/-- A region that draws: quiet operations (s) float, the effects i and j in either order (behind i: s1, behind j: s2), then the tail from n on. -/
theorem wp_mixF {id : Nat} {a : Act} {w : World} {l : List Oper} (s : List Nat) (i j : Nat) (s1 s2 : List (Nat × Bool)) (n : Nat) (C : World → Prop) (hm : P.follows .mixedOrders = true) (hsel : Region.noSelect l.toArray = true)
    (hs : (s.all fun k => decide (k < l.length)) = true) (hs1 : (s1.all fun p => decide (p.1 < l.length)) = true) (hs2 : (s2.all fun p => decide (p.1 < l.length)) = true)
    (hn : (decide (n < l.length) && decide (i < l.length) && decide (j < l.length) && decide (s1.length = s2.length) && decide (s.length + (1 + (s1.length + (l.length - n))) = l.length)) = true) (hB : Region.mixFB .any l.toArray n i j s1 s2 s (Array.replicate l.length false) = true)
    (hQ : ∀ (d : Option Tmp) (v : Value) c a w, Q (.panic c) (a.put d v) w → Q (.panic c) a w) (hC : C w.drew)
    (h : wpMix P l.toArray C (fun a' w' => wpFork P l C Q n i j s1 s2 a' w') Q (pick l (s.map fun k => (k, true))) a w.drew) : (Code.region id l.toArray true).wp P Q a w := by
  simp only [Bool.and_eq_true, decide_eq_true_eq] at hn
  obtain ⟨⟨⟨⟨hn1, hi⟩, hj⟩, h12⟩, hlen⟩ := hn
  have hG := wpAnyG_of_mixF (md := .any) hsel hQ hn1 hi hj h12 (fun p hp => by simpa using List.all_eq_true.1 hs1 p hp) (fun p hp => by simpa using List.all_eq_true.1 hs2 p hp) s _ a w.drew (fun k hk => by simpa using List.all_eq_true.1 hs k hk) hB (fun k ok hk hkl => by
    have hk2 := (Array.getElem?_eq_some_iff.1 hk).1
    simp only [List.size_toArray] at hk2
    simp [hk2] at hkl) hC h
  rw [hlen] at hG
  refine wp_region_any hm (wpAny_of_G (C := C) (m := n) _ _ _ _ ?_)
  simpa using hG
end
end Go.Proofs.YthlbmcfliejdiaaGreat
end

section
set_option linter.unusedVariables false
set_option linter.unusedSimpArgs false
namespace Go.Proofs.YthlbmcfliejdiaaGreat
open Go.RowKit

/-- What was seen, element by element. -/
theorem Rd.seen {w : World} {A : Option Addr} {rs : List SnR} {xs : List Sn} (h : Rd w A rs) (hs : Sns w rs xs) (i : Nat) (hi : i < rs.length) :
    ∃ b off s ta tc, A = some ⟨b, off, none⟩ ∧ Hid (xs[i]? = some s) ∧ Hid (Rd w ta s.ts) ∧ w.cell? ⟨b, off + i * 13, none⟩ = some (.int .i64 s.a.k) ∧ w.cell? ⟨b, off + i * 13 + 1, none⟩ = some (.int .i64 s.a.a) ∧ w.cell? ⟨b, off + i * 13 + 2, none⟩ = some (.int .i64 s.a.b) ∧ w.cell? ⟨b, off + i * 13 + 3, none⟩ = some (.int .i64 s.a.n) ∧ w.cell? ⟨b, off + i * 13 + 4, none⟩ = some (.string s.a.data) ∧
      w.cell? ⟨b, off + i * 13 + 5, none⟩ = some (.int .i64 s.e) ∧ w.cell? ⟨b, off + i * 13 + 6, none⟩ = some (.int .i64 s.now) ∧ w.cell? ⟨b, off + i * 13 + 7, none⟩ = some (.int .i64 s.l.id) ∧ w.cell? ⟨b, off + i * 13 + 8, none⟩ = some (.int .i64 s.l.fr) ∧ w.cell? ⟨b, off + i * 13 + 9, none⟩ = some (.int .i64 s.l.to) ∧ w.cell? ⟨b, off + i * 13 + 10, none⟩ = some (.int .i64 s.l.rd) ∧ w.cell? ⟨b, off + i * 13 + 11, none⟩ = some (.string s.l.data) ∧ w.cell? ⟨b, off + i * 13 + 12, none⟩ = some (.slice ta s.ts.length tc) := by
  obtain ⟨b, off, r, e, hx, hc⟩ := h.any i hi
  have hi2 : i < xs.length := by rw [← hs.1]; exact hi
  obtain ⟨h1, h2, h3, h4, h5, h6⟩ := hs.2 i r xs[i] hx.out (List.getElem?_eq_getElem hi2)
  obtain ⟨ra, re, rn, rl, rta, rtn, rtc⟩ := r
  simp only at h1 h2 h3 h4 h5 h6
  subst h1 h2 h3 h4 h5
  exact ⟨b, off, xs[i], rta, rtc, e, List.getElem?_eq_getElem hi2, h6, hc 0 _ rfl, hc 1 _ rfl, hc 2 _ rfl, hc 3 _ rfl, hc 4 _ rfl, hc 5 _ rfl, hc 6 _ rfl, hc 7 _ rfl, hc 8 _ rfl, hc 9 _ rfl, hc 10 _ rfl, hc 11 _ rfl, hc 12 _ rfl⟩
theorem seenS_get : ∀ (x : Nt) (xs : List Ac) (k : Nat) (d : Ac), xs[k]? = some d → (playS x xs)[k]? = some (doSR (playX x (xs.take k)) d)
  | x, [], k, d, h => by simp at h
  | x, b :: l, 0, d, h => by
    have : b = d := by simpa using h
    subst this; rfl
  | x, b :: l, k + 1, d, h => by
    have ih := seenS_get (doXR x b) l k d (by simpa using h)
    simpa [playS, playX] using ih
theorem seen_is {x : Nt} {xs : List Ac} {k : Nat} {s : Sn} (hx : Ok x) (h : (playS x xs)[k]? = some s) : ∃ d, xs[k]? = some d ∧ s.a = d ∧ s = doS (playX x (xs.take k)) d := by
  have hk := (List.getElem?_eq_some_iff.1 h).1
  rw [playS_length] at hk
  have hd : xs[k]? = some xs[k] := List.getElem?_eq_getElem hk
  rw [seenS_get x xs k _ hd] at h
  have hy := play_keeps (xs.take k) hx
  rw [doSR_ok hy] at h
  have hs := Option.some.inj h
  refine ⟨_, hd, ?_, hs.symm⟩
  rw [← hs]; unfold doS; split <;> rfl
end Go.Proofs.YthlbmcfliejdiaaGreat
end

section
set_option linter.unusedVariables false
set_option linter.unusedSimpArgs false
namespace Go.Proofs.YthlbmcfliejdiaaGreat
open Go.RowKit
attribute [local go_sem high] eqATm eqALt eqAAc eqALk

theorem ac_eq (c d : Ac) : (c.k == d.k && (c.a == d.a && (c.b == d.b && (c.n == d.n && (c.data.toList == d.data.toList))))) = decide (c = d) := by
  rw [ba_eq, Bool.eq_iff_iff]
  cases c; cases d
  simp
theorem ac_ne {c d : Ac} (h : c ≠ d) : (!(c.k == d.k) || (!(c.a == d.a) || (!(c.b == d.b) || (!(c.n == d.n) || !(c.data.toList == d.data.toList))))) = true := by
  have h1 := (ac_eq c d).trans (decide_eq_false h)
  revert h1
  cases (c.k == d.k) <;> cases (c.a == d.a) <;> cases (c.b == d.b) <;> cases (c.n == d.n) <;> cases (c.data.toList == d.data.toList) <;> simp
set_option maxHeartbeats 2000000 in
set_option maxRecDepth 100000 in
theorem same_any (s1 s2 : Sn) (t1 t2 : Option Addr) (c1 c2 : Nat) (w : World) (h1 : Rd w t1 s1.ts) (h2 : Rd w t2 s2.ts) (hl : s1.ts.length ≤ 10000000) :
    Calls Tryz.prog 57 #[.agg #[.int .i64 s1.a.k, .int .i64 s1.a.a, .int .i64 s1.a.b, .int .i64 s1.a.n, .string s1.a.data, .int .i64 s1.e, .int .i64 s1.now, .int .i64 s1.l.id, .int .i64 s1.l.fr, .int .i64 s1.l.to, .int .i64 s1.l.rd, .string s1.l.data, .slice t1 s1.ts.length c1], .agg #[.int .i64 s2.a.k, .int .i64 s2.a.a, .int .i64 s2.a.b, .int .i64 s2.a.n, .string s2.a.data, .int .i64 s2.e, .int .i64 s2.now, .int .i64 s2.l.id, .int .i64 s2.l.fr, .int .i64 s2.l.to, .int .i64 s2.l.rd, .string s2.l.data, .slice t2 s2.ts.length c2]] w fun e w' => e = .returned (.bool (decide (s1 = s2))) ∧ Below w.heap.size w w' := by
  obtain ⟨a1, e1, n1, l1, r1⟩ := s1
  obtain ⟨a2, e2, n2, l2, r2⟩ := s2
  simp only at h1 h2 hl ⊢
  have H1 := Lib.hid h1
  have H2 := Lib.hid h2
  clear h1 h2
  by_cases ha : a1 = a2
  rotate_left 1
  · have hne : Hid (decide ((⟨a1, e1, n1, l1, r1⟩ : Sn) = ⟨a2, e2, n2, l2, r2⟩) = false) := decide_eq_false (by simp [ha])
    have hq := ac_ne ha
    have hq1 := (ac_eq a1 a2).trans (decide_eq_false ha)
    clear ha
    go_enter Tryz.func57, Tryz.ntmps57
    go_wp2
    go_ret
    exact ⟨ret_bool hne.out.symm, below_alloc (below_alloc (Below.refl _ _) _) _⟩
  subst ha
  by_cases he : e1 = e2
  rotate_left 1
  · have hne : Hid (decide ((⟨a1, e1, n1, l1, r1⟩ : Sn) = ⟨a1, e2, n2, l2, r2⟩) = false) := decide_eq_false (by simp [he])
    have hq : (e1 == e2) = false := beq_eq_false_iff_ne.2 he
    clear he
    go_enter Tryz.func57, Tryz.ntmps57
    go_wp2
    go_ret
    exact ⟨ret_bool hne.out.symm, below_alloc (below_alloc (Below.refl _ _) _) _⟩
  subst he
  by_cases hn : n1 = n2
  rotate_left 1
  · have hne : Hid (decide ((⟨a1, e1, n1, l1, r1⟩ : Sn) = ⟨a1, e1, n2, l2, r2⟩) = false) := decide_eq_false (by simp [hn])
    have hq : (n1 == n2) = false := beq_eq_false_iff_ne.2 hn
    clear hn
    go_enter Tryz.func57, Tryz.ntmps57
    go_wp2
    go_ret
    exact ⟨ret_bool hne.out.symm, below_alloc (below_alloc (Below.refl _ _) _) _⟩
  subst hn
  by_cases hlt : l1 = l2
  rotate_left 1
  · have hne : Hid (decide ((⟨a1, e1, n1, l1, r1⟩ : Sn) = ⟨a1, e1, n1, l2, r2⟩) = false) := decide_eq_false (by simp [hlt])
    have hq := lt_ne hlt
    have hq1 := (lt_eq l1 l2).trans (decide_eq_false hlt)
    clear hlt
    go_enter Tryz.func57, Tryz.ntmps57
    go_wp2
    go_ret
    exact ⟨ret_bool hne.out.symm, below_alloc (below_alloc (Below.refl _ _) _) _⟩
  subst hlt
  have heq : Hid (decide ((⟨a1, e1, n1, l1, r1⟩ : Sn) = ⟨a1, e1, n1, l1, r2⟩) = decide (r1 = r2)) := by show _ = _; simp
  go_enter Tryz.func57, Tryz.ntmps57
  go_wp2_with fail
  have hb0 : Below w.heap.size w ((w.alloc (.cells #[.int .i64 a1.k, .int .i64 a1.a, .int .i64 a1.b, .int .i64 a1.n, .string a1.data, .int .i64 e1, .int .i64 n1, .int .i64 l1.id, .int .i64 l1.fr, .int .i64 l1.to, .int .i64 l1.rd, .string l1.data, .slice t1 r1.length c1] 52)).alloc (.cells #[.int .i64 a1.k, .int .i64 a1.a, .int .i64 a1.b, .int .i64 a1.n, .string a1.data, .int .i64 e1, .int .i64 n1, .int .i64 l1.id, .int .i64 l1.fr, .int .i64 l1.to, .int .i64 l1.rd, .string l1.data, .slice t2 r2.length c2] 52)) := below_alloc (below_alloc (Below.refl _ _) _) _
  refine calls_below (EqualT_any t1 t2 c1 c2 r1 r2 _ (H1.out.below hb0) (H2.out.below hb0) hl) ?_
  intro w3 hb3
  have hb := below_trans hb0 hb3
  clear hb0
  obtain ⟨b, hbb⟩ : ∃ b, b = decide (r1 = r2) := ⟨_, rfl⟩
  rw [← hbb]
  have HBB := Lib.hid hbb
  clear hbb
  go_wp2
  go_ret
  exact ⟨ret_bool (HBB.out.trans heq.out.symm), hb⟩
set_option maxHeartbeats 2000000 in
set_option maxRecDepth 100000 in
theorem RSameSeen_any (s1 s2 : Sn) (t1 t2 : Option Addr) (c1 c2 : Nat) (w : World) (h1 : Rd w t1 s1.ts) (h2 : Rd w t2 s2.ts) (hl : s1.ts.length ≤ 10000000) :
    Calls Tryz.prog 21 #[.agg #[.int .i64 s1.a.k, .int .i64 s1.a.a, .int .i64 s1.a.b, .int .i64 s1.a.n, .string s1.a.data, .int .i64 s1.e, .int .i64 s1.now, .int .i64 s1.l.id, .int .i64 s1.l.fr, .int .i64 s1.l.to, .int .i64 s1.l.rd, .string s1.l.data, .slice t1 s1.ts.length c1], .agg #[.int .i64 s2.a.k, .int .i64 s2.a.a, .int .i64 s2.a.b, .int .i64 s2.a.n, .string s2.a.data, .int .i64 s2.e, .int .i64 s2.now, .int .i64 s2.l.id, .int .i64 s2.l.fr, .int .i64 s2.l.to, .int .i64 s2.l.rd, .string s2.l.data, .slice t2 s2.ts.length c2]] w fun e w' => e = .returned (.bool (decide (s1 = s2))) ∧ Below w.heap.size w w' := by
  obtain ⟨a1, e1, n1, l1, r1⟩ := s1
  obtain ⟨a2, e2, n2, l2, r2⟩ := s2
  simp only at h1 h2 hl ⊢
  have H1 := Lib.hid h1
  have H2 := Lib.hid h2
  clear h1 h2
  by_cases ha : a1 = a2
  rotate_left 1
  · have hne : Hid (decide ((⟨a1, e1, n1, l1, r1⟩ : Sn) = ⟨a2, e2, n2, l2, r2⟩) = false) := decide_eq_false (by simp [ha])
    have hq := ac_ne ha
    have hq1 := (ac_eq a1 a2).trans (decide_eq_false ha)
    clear ha
    go_enter Tryz.func21, Tryz.ntmps21
    go_wp2
    go_ret
    exact ⟨ret_bool hne.out.symm, below_alloc (below_alloc (Below.refl _ _) _) _⟩
  subst ha
  by_cases he : e1 = e2
  rotate_left 1
  · have hne : Hid (decide ((⟨a1, e1, n1, l1, r1⟩ : Sn) = ⟨a1, e2, n2, l2, r2⟩) = false) := decide_eq_false (by simp [he])
    have hq : (e1 == e2) = false := beq_eq_false_iff_ne.2 he
    clear he
    go_enter Tryz.func21, Tryz.ntmps21
    go_wp2
    go_ret
    exact ⟨ret_bool hne.out.symm, below_alloc (below_alloc (Below.refl _ _) _) _⟩
  subst he
  by_cases hn : n1 = n2
  rotate_left 1
  · have hne : Hid (decide ((⟨a1, e1, n1, l1, r1⟩ : Sn) = ⟨a1, e1, n2, l2, r2⟩) = false) := decide_eq_false (by simp [hn])
    have hq : (n1 == n2) = false := beq_eq_false_iff_ne.2 hn
    clear hn
    go_enter Tryz.func21, Tryz.ntmps21
    go_wp2
    go_ret
    exact ⟨ret_bool hne.out.symm, below_alloc (below_alloc (Below.refl _ _) _) _⟩
  subst hn
  by_cases hlt : l1 = l2
  rotate_left 1
  · have hne : Hid (decide ((⟨a1, e1, n1, l1, r1⟩ : Sn) = ⟨a1, e1, n1, l2, r2⟩) = false) := decide_eq_false (by simp [hlt])
    have hq := lt_ne hlt
    have hq1 := (lt_eq l1 l2).trans (decide_eq_false hlt)
    clear hlt
    go_enter Tryz.func21, Tryz.ntmps21
    go_wp2
    go_ret
    exact ⟨ret_bool hne.out.symm, below_alloc (below_alloc (Below.refl _ _) _) _⟩
  subst hlt
  have heq : Hid (decide ((⟨a1, e1, n1, l1, r1⟩ : Sn) = ⟨a1, e1, n1, l1, r2⟩) = decide (r1 = r2)) := by show _ = _; simp
  go_enter Tryz.func21, Tryz.ntmps21
  go_wp2_with fail
  have hb0 : Below w.heap.size w ((w.alloc (.cells #[.int .i64 a1.k, .int .i64 a1.a, .int .i64 a1.b, .int .i64 a1.n, .string a1.data, .int .i64 e1, .int .i64 n1, .int .i64 l1.id, .int .i64 l1.fr, .int .i64 l1.to, .int .i64 l1.rd, .string l1.data, .slice t1 r1.length c1] 52)).alloc (.cells #[.int .i64 a1.k, .int .i64 a1.a, .int .i64 a1.b, .int .i64 a1.n, .string a1.data, .int .i64 e1, .int .i64 n1, .int .i64 l1.id, .int .i64 l1.fr, .int .i64 l1.to, .int .i64 l1.rd, .string l1.data, .slice t2 r2.length c2] 52)) := below_alloc (below_alloc (Below.refl _ _) _) _
  refine calls_below (RSameTimers_any t1 t2 c1 c2 r1 r2 _ (H1.out.below hb0) (H2.out.below hb0) hl) ?_
  intro w3 hb3
  have hb := below_trans hb0 hb3
  clear hb0
  obtain ⟨b, hbb⟩ : ∃ b, b = decide (r1 = r2) := ⟨_, rfl⟩
  rw [← hbb]
  have HBB := Lib.hid hbb
  clear hbb
  go_wp2
  go_ret
  exact ⟨ret_bool (HBB.out.trans heq.out.symm), hb⟩
set_option maxHeartbeats 2000000 in
set_option maxRecDepth 100000 in
theorem RSameLog_any (A1 A2 : Option Addr) (c1 c2 : Nat) (rs1 rs2 : List SnR) (xs ys : List Sn) (w : World) (h1 : Rd w A1 rs1) (h2 : Rd w A2 rs2) (g1 : Sns w rs1 xs) (g2 : Sns w rs2 ys) (hl : xs.length ≤ 10000000) (hts : ∀ s ∈ xs, s.ts.length ≤ 10000000) :
    Calls Tryz.prog 24 #[.slice A1 xs.length c1, .slice A2 ys.length c2] w fun e w' => e = .returned (.bool (decide (xs = ys))) ∧ Below w.heap.size w w' := by
  have HTS := Lib.hid hts
  clear hts
  by_cases hlen : xs.length = ys.length
  · have q1 : (xs.length == ys.length) = true := by simpa using hlen
    have q2 : (xs.length != ys.length) = false := by simpa using hlen
    have q3 : ((xs.length : Int) == (ys.length : Int)) = true := by rw [beq_iff_eq]; omega
    have q4 : ((xs.length : Int) != (ys.length : Int)) = false := by rw [bne_eq_false_iff_eq]; omega
    have HLE := Lib.hid hlen
    have H1 := Lib.hid h1
    have H2 := Lib.hid h2
    have G1 := Lib.hid g1
    have G2 := Lib.hid g2
    clear hlen h1 h2 g1 g2
    go_enter Tryz.func24, Tryz.ntmps24
    go_wp2
    go_loopw [5] (fun i wr => ∃ k : Nat, k ≤ xs.length ∧ i = .int .i64 k ∧ Hid (xs.take k = ys.take k) ∧ Hid (Below w.heap.size w wr)) (fun i _ => xs.length - (intOf i).toNat)
    case atStart => exact ⟨0, Nat.zero_le _, rfl, rfl, Below.refl _ _⟩
    case round =>
      obtain ⟨k, hk, rfl, ho, hB⟩ := hrel
      by_cases hlt : k < xs.length
      · have hlt2 : k < ys.length := by have := HLE.out; omega
        have d1 : decide (k < xs.length) = true := by simpa using hlt
        obtain ⟨b1, off1, x, ta1, tc1, rfl, hx, hr1, c0, c1, c2, c3, c4, c5, c6, c7, c8, c9, c10, c11, c12⟩ := (H1.out.below hB.out).seen (G1.out.below hB.out) k (by rw [G1.out.1]; exact hlt)
        obtain ⟨b2, off2, y, ta2, tc2, rfl, hy, hr2, e0, e1, e2, e3, e4, e5, e6, e7, e8, e9, e10, e11, e12⟩ := (H2.out.below hB.out).seen (G2.out.below hB.out) k (by rw [G2.out.1]; exact hlt2)
        have hbt1 : b1 < wr.heap.size := World.block_lt_of_cell? wr _ c0
        have hbt2 : b2 < wr.heap.size := World.block_lt_of_cell? wr _ e0
        have hxl := HTS.out x (mem_at hx.out)
        have hs := eq_step hx hy ho.out
        have HSE := Lib.hid hs
        clear hs
        go_wp2
        refine wp_still_tail 8 (by kernel_rfl) (by kernel_rfl) ?_
        simp only [List.take_succ_cons, List.take_zero, List.drop_succ_cons, List.drop_zero]
        repeat still_step
        refine wpStill_nil ?_
        go_wp2_with fail
        refine calls_below (RSameSeen_any x y ta1 ta2 tc1 tc2 _ (Rd.drew hr1.out) (Rd.drew hr2.out) hxl) ?_
        intro w3 hb3
        have HB3 := Lib.hid (below_trans hB.out (below_trans (Below.refl _ wr).drew hb3))
        clear hb3
        by_cases hxy : x = y
        · have hn := Lib.hid (HSE.out.1 hxy)
          rw [decide_eq_true hxy]
          clear hxy
          go_wp2
          go_roundw
          case rel => exact ⟨k + 1, by omega, by go_num, hn.out, HB3.out⟩
          case measure => simp [intOf]; omega
        · have hn := Lib.hid (HSE.out.2 hxy)
          rw [decide_eq_false hxy]
          clear hxy
          go_wp2
          go_ret
          exact ⟨ret_bool (decide_eq_false hn.out).symm, HB3.out⟩
      · have d1 : decide (k < xs.length) = false := by simpa using hlt
        have hkl : k = xs.length := by omega
        have HKL := Lib.hid hkl
        clear hkl
        go_wp2
        go_ret
        have he : xs = ys := by
          have h := ho.out
          rw [HKL.out, List.take_length, HLE.out, List.take_length] at h
          exact h
        exact ⟨ret_bool (decide_eq_true he).symm, hB.out⟩
  · have q1 : (xs.length == ys.length) = false := by simpa using hlen
    have q2 : (xs.length != ys.length) = true := by simpa using hlen
    have q3 : ((xs.length : Int) == (ys.length : Int)) = false := by rw [beq_eq_false_iff_ne]; omega
    have q4 : ((xs.length : Int) != (ys.length : Int)) = true := by rw [bne_iff_ne]; omega
    have hne : Hid (xs ≠ ys) := fun h => hlen (by rw [h])
    clear hlen
    go_enter Tryz.func24, Tryz.ntmps24
    go_wp2
    go_ret
    exact ⟨ret_bool (decide_eq_false hne.out).symm, Below.refl _ _⟩
end Go.Proofs.YthlbmcfliejdiaaGreat
end

section
set_option linter.unusedVariables false
set_option linter.unusedSimpArgs false
namespace Go.Proofs.YthlbmcfliejdiaaGreat
open Go.RowKit

theorem audit_cons (x : Nt) (s : Sn) (l : List Sn) (i : Int) : auditF x (s :: l) i = if doSR x s.a = s then auditF (doXR x s.a) l (i + 1) else (9, i) := rfl
theorem doSR_ts (x : Nt) (a : Ac) (h : Ok x) : (doSR x a).ts.length ≤ 300 := by
  rw [doSR_ok h]
  unfold doS
  split
  · show (actM x a).ts.length ≤ 300
    unfold actM
    split
    · rw [ts_send]; simp
    split
    · rw [ts_deliver]; simp
    split
    · rw [ts_lose]; simp
    split
    · rw [ts_double]; simp
    split
    · rw [ts_delay]; simp
    split
    · rw [ts_cut]; simp
    split
    · rw [ts_heal]; simp
    split
    · rw [ts_set]; simp
    split
    · rw [ts_stop]; simp
    split
    · have h1 := h.tms
      unfold tickM
      split
      · simp [errR]
      · exact Nat.le_trans (List.length_filter_le _ _) (by omega)
    · simp [errR]
  · simp
set_option maxHeartbeats 1000000 in
set_option maxRecDepth 100000 in
theorem Audit_bad (n : Int) (v : Value) (w : World) (h : n < 1 ∨ 16 < n) : Calls Tryz.prog 25 #[.int .i64 n, v] w fun e w' => e = .returned (.tuple #[.int .i64 1, .int .i64 0]) ∧ Below w.heap.size w w' := by
  have HN := Lib.hid (fun W => New_bad n W h)
  clear h
  go_enter Tryz.func25, Tryz.ntmps25
  go_wp2_with (go_at_call 31; refine (HN.out _).mono ?_; rintro e w1 ⟨rfl, hb1⟩; simp only [zNetV])
  go_ret2
  exact ⟨rfl, below_alloc hb1 _⟩
set_option maxHeartbeats 4000000 in
set_option maxRecDepth 100000 in
theorem Audit_good (n : Int) (xs : List Sn) (rs : List SnR) (A : Option Addr) (c : Nat) (w : World) (h0 : 1 ≤ n) (h1 : n ≤ 16) (hR : Rd w A rs) (hS : Sns w rs xs) (hl : xs.length ≤ 1000000) :
    Calls Tryz.prog 25 #[.int .i64 n, .slice A xs.length c] w fun e w' => e = .returned (.tuple #[.int .i64 (auditF (newX n) xs 0).1, .int .i64 (auditF (newX n) xs 0).2]) ∧ Below w.heap.size w w' := by
  have HX0 := Lib.hid (newX_ok h0 h1)
  have HN := Lib.hid (fun W => New_ok n W h0 h1)
  have HR := Lib.hid hR
  have HSS := Lib.hid hS
  obtain ⟨x0, hx0⟩ : ∃ x0, x0 = newX n := ⟨_, rfl⟩
  have HXE := Lib.hid hx0
  rw [← hx0] at HX0 ⊢
  obtain ⟨R, hRR⟩ : ∃ R, R = auditF x0 xs 0 := ⟨_, rfl⟩
  have HRR := Lib.hid hRR
  rw [← hRR]
  clear hR hx0 hS hRR
  go_enter Tryz.func25, Tryz.ntmps25
  go_wp2_with (go_at_call 31; refine (HN.out _).mono ?_; rintro e w1 ⟨rfl, hb1⟩)
  obtain ⟨W1, hW1⟩ : ∃ W1, W1 = w1.alloc (.cells #[.int .i64 n, .int .i64 0, .int .i64 0, .slice none 0 0, .slice none 0 0, .slice none 0 0] 26) := ⟨_, rfl⟩
  rw [← hW1]
  have HB2 : Hid (Below w.heap.size w W1) := by rw [hW1]; exact below_alloc hb1 _
  have HN1 : Hid (W1.heap[w1.heap.size]? = some (.cells #[.int .i64 n, .int .i64 0, .int .i64 0, .slice none 0 0, .slice none 0 0, .slice none 0 0] 26 (0, 0))) := by rw [hW1]; exact bl_new _ _
  have hbw : w.heap.size ≤ w1.heap.size := hb1.size
  clear hW1 hb1
  obtain ⟨bn, hbn⟩ : ∃ bn, bn = w1.heap.size := ⟨_, rfl⟩
  rw [← hbn] at HN1 hbw ⊢
  clear hbn
  go_loopw [21] (fun i wr => ∃ (k : Nat) (AW : Option Addr) (cW : Nat) (AC : Option Addr) (cC : Nat) (AT : Option Addr) (cT : Nat) (x : Nt), k ≤ xs.length ∧ i = .int .i64 k ∧ Hid (Ok x) ∧ Hid (R = auditF x (xs.drop k) (k : Int)) ∧
    Hid (wr.heap[bn]? = some (.cells #[.int .i64 x.nodes, .int .i64 x.now, .int .i64 x.next, .slice AW x.way.length cW, .slice AC x.cuts.length cC, .slice AT x.timers.length cT] 26 (0, 0))) ∧ Hid (NetV wr (.agg #[.int .i64 x.nodes, .int .i64 x.now, .int .i64 x.next, .slice AW x.way.length cW, .slice AC x.cuts.length cC, .slice AT x.timers.length cT]) x) ∧ Hid (Below w.heap.size w wr)) (fun i _ => xs.length - (intOf i).toNat)
  case atStart =>
    refine ⟨0, none, 0, none, 0, none, 0, x0, Nat.zero_le _, rfl, HX0, ?_, ?_, ?_, HB2⟩
    · show R = _; rw [HRR.out]; rfl
    · show _ = _; rw [HXE.out]; exact HN1.out
    · show NetV _ _ _; rw [HXE.out]; exact ⟨none, 0, none, 0, none, 0, rfl, Rd.nil _ _, Rd.nil _ _, Rd.nil _ _⟩
  case round =>
    clear HB2 HN1 HN
    obtain ⟨k, AW, cW, AC, cC, AT, cT, x, hk, rfl, HXK, HAU, HBN, HV, HB⟩ := hrel
    have hnw := bl_lt HBN.out
    have hw := HB.out.size
    obtain ⟨⟨k0, k1, k2, k3, k4, k5⟩, f0, f1, f2, f3, f4, f5⟩ := blc6 HBN.out
    have xw := HXK.out.way
    have xc := HXK.out.cuts256
    have xt := HXK.out.tms
    by_cases hlt : k < xs.length
    · obtain ⟨bb, off, s, ta, tc, rfl, hs, hts, c0, c1, c2, c3, c4, c5, c6, c7, c8, c9, c10, c11, c12⟩ := HR.out.seen HSS.out k (by rw [HSS.out.1]; exact hlt)
      replace c0 := cell_below HB.out c0
      replace c1 := cell_below HB.out c1
      replace c2 := cell_below HB.out c2
      replace c3 := cell_below HB.out c3
      replace c4 := cell_below HB.out c4
      replace c5 := cell_below HB.out c5
      replace c6 := cell_below HB.out c6
      replace c7 := cell_below HB.out c7
      replace c8 := cell_below HB.out c8
      replace c9 := cell_below HB.out c9
      replace c10 := cell_below HB.out c10
      replace c11 := cell_below HB.out c11
      replace c12 := cell_below HB.out c12
      have hbt : bb < wr.heap.size := World.block_lt_of_cell? wr _ c0
      have hau := HAU.out
      rw [drop_at hs, audit_cons] at hau
      obtain ⟨y, hy⟩ : ∃ y, y = doXR x s.a := ⟨_, rfl⟩
      obtain ⟨z, hz⟩ : ∃ z, z = doSR x s.a := ⟨_, rfl⟩
      have hdo := fun (v : Value) (w : World) => Do_any x s.a v w (by omega) (by omega) (by omega)
      have hzl := doSR_ts x s.a HXK.out
      have hoy : Ok y := by rw [hy, doXR_ok HXK.out]; exact do_keeps HXK.out _
      unfold doQ at hdo
      rw [← hy, ← hz] at hdo hau
      rw [← hz] at hzl
      have HDO := Lib.hid hdo
      have HOY := Lib.hid hoy
      have HAN := Lib.hid hau
      clear hdo hy hz hau hoy
      go_upto_region 8 with fail
      obtain ⟨w2, hw2⟩ : ∃ w2, w2 = (wr.alloc (.cells #[.int .i64 s.a.k, .int .i64 s.a.a, .int .i64 s.a.b, .int .i64 s.a.n, .string s.a.data, .int .i64 s.e, .int .i64 s.now, .int .i64 s.l.id, .int .i64 s.l.fr, .int .i64 s.l.to, .int .i64 s.l.rd, .string s.l.data, .slice ta s.ts.length tc] 52)).alloc (.cells #[.int .i64 0, .int .i64 0, .int .i64 0, .int .i64 0, .string ⟨#[]⟩, .int .i64 0, .int .i64 0, .int .i64 0, .int .i64 0, .int .i64 0, .int .i64 0, .string ⟨#[]⟩, .slice none 0 0] 52) := ⟨_, rfl⟩
      have hb2 : Below wr.heap.size wr w2 := by rw [hw2]; exact below_alloc (below_alloc (Below.refl _ _) _) _
      have hs2 : w2.heap.size = wr.heap.size + 2 := by rw [hw2]; simp
      have h9 : w2.heap[wr.heap.size]? = some (.cells #[.int .i64 s.a.k, .int .i64 s.a.a, .int .i64 s.a.b, .int .i64 s.a.n, .string s.a.data, .int .i64 s.e, .int .i64 s.now, .int .i64 s.l.id, .int .i64 s.l.fr, .int .i64 s.l.to, .int .i64 s.l.rd, .string s.l.data, .slice ta s.ts.length tc] 52 (0, 0)) := by rw [hw2]; exact bl_alloc (bl_new _ _) _
      have h10 : w2.heap[wr.heap.size + 1]? = some (.cells #[.int .i64 0, .int .i64 0, .int .i64 0, .int .i64 0, .string ⟨#[]⟩, .int .i64 0, .int .i64 0, .int .i64 0, .int .i64 0, .int .i64 0, .int .i64 0, .string ⟨#[]⟩, .slice none 0 0] 52 (0, 0)) := by rw [hw2]; exact bl_newS (by simp)
      have hbn2 := bl_below HBN.out hb2
      rw [← hw2]
      clear hw2 k0 k1 k2 k3 k4 k5 f0 f1 f2 f3 f4 f5 c0 c1 c2 c3 c4 c5 c6 c7 c8 c9 c10 c11 c12 hbt
      obtain ⟨⟨k0, k1, k2, k3, k4, k5⟩, f0, f1, f2, f3, f4, f5⟩ := blc6 hbn2
      obtain ⟨⟨d0, d1, d2, d3, d4, d5, d6, d7, d8, d9, d10, d11, d12⟩, -⟩ := blc13 h9
      have l2 := bl_lt hbn2
      have l9 := bl_lt h9
      have HV2 := Lib.hid (HV.out.below hb2)
      have HB2 := Lib.hid (HB.out.trans (hb2.mono hw))
      have HT2 := hts
      have H9 := Lib.hid h9
      have H10 := Lib.hid h10
      have HBN2 := Lib.hid hbn2
      clear h9 h10 hbn2 hb2
      go_wp2_with fail
      refine (HDO.out _ _ HV2.out).mono ?_
      rintro e wd ⟨v', u, rfl, hU, hV', hbd⟩
      obtain ⟨AU, cU, rfl, -, -⟩ := hU.slice
      obtain ⟨AW3, cW3, AC3, cC3, AT3, cT3, rfl, rW3, rC3, rT3⟩ := hV'
      have HV3 : Hid (NetO wd w2.heap.size (.agg #[.int .i64 y.nodes, .int .i64 y.now, .int .i64 y.next, .slice AW3 y.way.length cW3, .slice AC3 y.cuts.length cC3, .slice AT3 y.timers.length cT3]) y) := ⟨AW3, cW3, AC3, cC3, AT3, cT3, rfl, rW3, rC3, rT3⟩
      have HU := Lib.hid hU
      have HBD := Lib.hid hbd
      have hbn3 := bl_below HBN2.out hbd
      have h93 := bl_below H9.out hbd
      have h103 := bl_below H10.out hbd
      have HBN3 := Lib.hid hbn3
      have H93 := Lib.hid h93
      have H103 := Lib.hid h103
      clear rW3 rC3 rT3 hU hbd k0 k1 k2 k3 k4 k5 f0 f1 f2 f3 f4 f5 d0 d1 d2 d3 d4 d5 d6 d7 d8 d9 d10 d11 d12 l2 l9 h93
      obtain ⟨⟨k0, k1, k2, k3, k4, k5⟩, f0, f1, f2, f3, f4, f5⟩ := blc6 hbn3
      obtain ⟨⟨d0, d1, d2, d3, d4, d5, d6, d7, d8, d9, d10, d11, d12⟩, e0, e1, e2, e3, e4, e5, e6, e7, e8, e9, e10, e11, e12⟩ := blc13 h103
      have ln := bl_lt hbn3
      have l12 := bl_lt h103
      have x1 : ¬ bn = wr.heap.size + 1 := by omega
      have x2 : ¬ wr.heap.size + 1 = bn := by omega
      clear hbn3 h103
      go_upto_region 9 with fail
      obtain ⟨Wq, hWq⟩ : ∃ Wq, Wq = put13 ((((((wd.setCell ⟨bn, 0, none⟩ (.int .i64 y.nodes)).setCell ⟨bn, 1, none⟩ (.int .i64 y.now)).setCell ⟨bn, 2, none⟩ (.int .i64 y.next)).setCell ⟨bn, 3, none⟩ (.slice AW3 y.way.length cW3)).setCell ⟨bn, 4, none⟩ (.slice AC3 y.cuts.length cC3)).setCell ⟨bn, 5, none⟩ (.slice AT3 y.timers.length cT3)) (wr.heap.size + 1) (.int .i64 z.a.k) (.int .i64 z.a.a) (.int .i64 z.a.b) (.int .i64 z.a.n) (.string z.a.data) (.int .i64 z.e) (.int .i64 z.now) (.int .i64 z.l.id) (.int .i64 z.l.fr) (.int .i64 z.l.to) (.int .i64 z.l.rd) (.string z.l.data) (.slice AU z.ts.length cU) := ⟨_, rfl⟩
      have hqs : Wq.heap.size = wd.heap.size := by rw [hWq, put13_size]; simp [World.setCell]
      have HQN : Hid (Wq.heap[bn]? = some (.cells #[.int .i64 y.nodes, .int .i64 y.now, .int .i64 y.next, .slice AW3 y.way.length cW3, .slice AC3 y.cuts.length cC3, .slice AT3 y.timers.length cT3] 26 (0, 0))) := by rw [hWq]; exact put13_far (bl_all6 HBN3.out _ _ _ _ _ _) x1
      have HQ9 : Hid (Wq.heap[wr.heap.size]? = some (.cells #[.int .i64 s.a.k, .int .i64 s.a.a, .int .i64 s.a.b, .int .i64 s.a.n, .string s.a.data, .int .i64 s.e, .int .i64 s.now, .int .i64 s.l.id, .int .i64 s.l.fr, .int .i64 s.l.to, .int .i64 s.l.rd, .string s.l.data, .slice ta s.ts.length tc] 52 (0, 0))) := by rw [hWq]; exact put13_far (bl_far6 H93.out (by omega) _ _ _ _ _ _) (by omega)
      have HQ10 : Hid (Wq.heap[wr.heap.size + 1]? = some (.cells #[.int .i64 z.a.k, .int .i64 z.a.a, .int .i64 z.a.b, .int .i64 z.a.n, .string z.a.data, .int .i64 z.e, .int .i64 z.now, .int .i64 z.l.id, .int .i64 z.l.fr, .int .i64 z.l.to, .int .i64 z.l.rd, .string z.l.data, .slice AU z.ts.length cU] 52 (0, 0))) := by rw [hWq]; exact put13_all (bl_far6 H103.out (by omega) _ _ _ _ _ _)
      have HQB : Hid (Below w.heap.size w Wq) := by rw [hWq]; exact put13_below (below_set6 (HB2.out.trans (HBD.out.mono HB2.out.size)) (by omega) _ _ _ _ _ _) (by omega)
      have HQU : Hid (Own Wq w2.heap.size 86 (.slice AU z.ts.length cU) z.ts) := by
        rw [hWq]
        refine put13_own ?_ (fun h => by have := (HU.out.lt _ h).1; omega)
        repeat (refine Own.far ?_ (by show bn < w2.heap.size; omega) _)
        exact HU.out
      have HQV : Hid (NetV Wq (.agg #[.int .i64 y.nodes, .int .i64 y.now, .int .i64 y.next, .slice AW3 y.way.length cW3, .slice AC3 y.cuts.length cC3, .slice AT3 y.timers.length cT3]) y) := by
        rw [hWq]
        exact (put13_net (HV3.out.far6 (by omega) _ _ _ _ _ _) (by omega)).netV
      have HQT : Hid (Rd Wq ta s.ts) := HT2.out.below HQB.out
      change Code.wp _ _ _ _ (put13 ((((((wd.setCell ⟨bn, 0, none⟩ (.int .i64 y.nodes)).setCell ⟨bn, 1, none⟩ (.int .i64 y.now)).setCell ⟨bn, 2, none⟩ (.int .i64 y.next)).setCell ⟨bn, 3, none⟩ (.slice AW3 y.way.length cW3)).setCell ⟨bn, 4, none⟩ (.slice AC3 y.cuts.length cC3)).setCell ⟨bn, 5, none⟩ (.slice AT3 y.timers.length cT3)) (wr.heap.size + 1) (.int .i64 z.a.k) (.int .i64 z.a.a) (.int .i64 z.a.b) (.int .i64 z.a.n) (.string z.a.data) (.int .i64 z.e) (.int .i64 z.now) (.int .i64 z.l.id) (.int .i64 z.l.fr) (.int .i64 z.l.to) (.int .i64 z.l.rd) (.string z.l.data) (.slice AU z.ts.length cU))
      rw [← hWq]
      clear hWq hqs HU HBD HBN3 H93 H103 HV3 HB2 HV2 H9 H10 HBN2 HDO k0 k1 k2 k3 k4 k5 f0 f1 f2 f3 f4 f5 d0 d1 d2 d3 d4 d5 d6 d7 d8 d9 d10 d11 d12 e0 e1 e2 e3 e4 e5 e6 e7 e8 e9 e10 e11 e12 ln l12 x1 x2
      obtain ⟨⟨d0, d1, d2, d3, d4, d5, d6, d7, d8, d9, d10, d11, d12⟩, -⟩ := blc13 HQ10.out
      obtain ⟨⟨e0, e1, e2, e3, e4, e5, e6, e7, e8, e9, e10, e11, e12⟩, -⟩ := blc13 HQ9.out
      have l9 := bl_lt HQ9.out
      have l10 := bl_lt HQ10.out
      have hl10 : wr.heap.size < Wq.heap.size := by omega
      go_wp2_with fail
      refine calls_below (same_any z s AU ta cU tc _ (Own.rd HQU.out) HQT.out (by omega)) ?_
      intro w5 hb5
      have HB5 := Lib.hid (HQB.out.trans (hb5.mono HQB.out.size))
      have HN5 := Lib.hid (bl_below HQN.out hb5)
      have HV5 := Lib.hid (HQV.out.below hb5)
      clear d0 d1 d2 d3 d4 d5 d6 d7 d8 d9 d10 d11 d12 e0 e1 e2 e3 e4 e5 e6 e7 e8 e9 e10 e11 e12 hb5 l9 l10 hl10
      by_cases hzs : z = s
      · have hau : Hid (R = auditF y (xs.drop (k + 1)) ((k : Int) + 1)) := HAN.out.trans (if_pos hzs)
        rw [decide_eq_true hzs]
        clear hzs
        go_wp2
        go_roundw
        case rel => exact ⟨k + 1, AW3, cW3, AC3, cC3, AT3, cT3, y, by omega, by go_num, HOY, by show R = _; rw [hau.out]; rfl, HN5, HV5, HB5⟩
        case measure => simp [intOf]; omega
      · have hau : Hid (R = (9, (k : Int))) := HAN.out.trans (if_neg hzs)
        rw [decide_eq_false hzs]
        clear hzs
        go_wp2
        go_ret2
        exact ⟨by have h := hau.out; subst h; rfl, HB5.out⟩
    · have hkl : xs.drop k = [] := List.drop_of_length_le (by omega)
      have hau : Hid (R = (0, 0)) := by show R = _; rw [HAU.out, hkl]; rfl
      clear hkl k0 k1 k2 k3 k4 k5 f0 f1 f2 f3 f4 f5
      go_wp2
      go_ret2
      exact ⟨by have h := hau.out; subst h; rfl, HB.out⟩
end Go.Proofs.YthlbmcfliejdiaaGreat
end

section
set_option linter.unusedVariables false
set_option linter.unusedSimpArgs false
namespace Go.Proofs.YthlbmcfliejdiaaGreat
open Go.RowKit
attribute [local go_sem high] eqATm eqALt eqAAc eqALk

/-- The first loop's body of a code. -/
def loopF : Code → Option Code
  | .loop c => some c
  | .seq a b => match loopF a with
    | some c => some c
    | none => loopF b
  | .block _ c => loopF c
  | .scope c => loopF c
  | .cond _ a b => match loopF a with
    | some c => some c
    | none => loopF b
  | _ => none
theorem newRow_abv {B : Nat} {w : World} {o : Obj} (cs : Array Value) : Abv B w ((w.alloc o).setRow w.heap.size cs) := by
  refine ⟨by simp [World.setRow], fun k hk hlt => ?_⟩
  rw [setRow_other _ _ _ _ (by omega)]
  exact (bl_alloc (Array.getElem?_eq_getElem hlt) o).trans (Array.getElem?_eq_getElem hlt).symm
theorem row_abv {B g : Nat} {w : World} (cs : Array Value) (hg : g < B) : Abv B w (w.setRow g cs) := by
  refine ⟨by simp [World.setRow], fun k hk hlt => ?_⟩
  rw [setRow_other _ _ _ _ (by omega)]
theorem blc20 {w : World} {b : Nat} {t : TypeId} {c0 c1 c2 c3 c4 c5 c6 c7 c8 c9 c10 c11 c12 c13 c14 c15 c16 c17 c18 c19 : Value} (h : w.heap[b]? = some (.cells #[c0, c1, c2, c3, c4, c5, c6, c7, c8, c9, c10, c11, c12, c13, c14, c15, c16, c17, c18, c19] t (0, 0))) :
    (w.cell? ⟨b, 0, none⟩ = some c0 ∧ w.cell? ⟨b, 1, none⟩ = some c1 ∧ w.cell? ⟨b, 2, none⟩ = some c2 ∧ w.cell? ⟨b, 3, none⟩ = some c3 ∧ w.cell? ⟨b, 4, none⟩ = some c4 ∧ w.cell? ⟨b, 5, none⟩ = some c5 ∧ w.cell? ⟨b, 6, none⟩ = some c6 ∧ w.cell? ⟨b, 7, none⟩ = some c7 ∧ w.cell? ⟨b, 8, none⟩ = some c8 ∧ w.cell? ⟨b, 9, none⟩ = some c9 ∧ w.cell? ⟨b, 10, none⟩ = some c10 ∧ w.cell? ⟨b, 11, none⟩ = some c11 ∧ w.cell? ⟨b, 12, none⟩ = some c12 ∧ w.cell? ⟨b, 13, none⟩ = some c13 ∧ w.cell? ⟨b, 14, none⟩ = some c14 ∧ w.cell? ⟨b, 15, none⟩ = some c15 ∧ w.cell? ⟨b, 16, none⟩ = some c16 ∧ w.cell? ⟨b, 17, none⟩ = some c17 ∧ w.cell? ⟨b, 18, none⟩ = some c18 ∧ w.cell? ⟨b, 19, none⟩ = some c19) ∧ ∀ j, w.frozen? ⟨b, j, none⟩ = false :=
  ⟨⟨(bl_cell h 0).trans rfl, (bl_cell h 1).trans rfl, (bl_cell h 2).trans rfl, (bl_cell h 3).trans rfl, (bl_cell h 4).trans rfl, (bl_cell h 5).trans rfl, (bl_cell h 6).trans rfl, (bl_cell h 7).trans rfl, (bl_cell h 8).trans rfl, (bl_cell h 9).trans rfl, (bl_cell h 10).trans rfl, (bl_cell h 11).trans rfl, (bl_cell h 12).trans rfl, (bl_cell h 13).trans rfl, (bl_cell h 14).trans rfl, (bl_cell h 15).trans rfl, (bl_cell h 16).trans rfl, (bl_cell h 17).trans rfl, (bl_cell h 18).trans rfl, (bl_cell h 19).trans rfl⟩, fun j => bl_frozen h j⟩
noncomputable def raBody : Code := ((Tryz.f26.body.bind loopF).getD .skip)
def raI (xs : List Sn) (v1 : Value) (R : Int × Int) (bn gr B : Nat) (w0 : World) (a : Act) (wr : World) : Prop :=
  ∃ f, a = st 45 f ∧ ∃ (i : Nat) (AW : Option Addr) (cW : Nat) (AC : Option Addr) (cC : Nat) (AT : Option Addr) (cT : Nat) (x : Nt), i ≤ xs.length ∧ f 1 = v1 ∧ f 4 = .pointer (some ⟨gr, 0, none⟩) ∧ f 6 = .pointer (some ⟨bn, 0, none⟩) ∧ f 7 = .int .i64 (i : Int) ∧
    Hid (Ok x) ∧ Hid (R = auditF x (xs.drop i) (i : Int)) ∧ Hid (wr.heap[bn]? = some (.cells #[.int .i64 x.nodes, .int .i64 x.now, .int .i64 x.next, .slice AW x.way.length cW, .slice AC x.cuts.length cC, .slice AT x.timers.length cT] 26 (0, 0))) ∧ Hid (NetO wr B (.agg #[.int .i64 x.nodes, .int .i64 x.now, .int .i64 x.next, .slice AW x.way.length cW, .slice AC x.cuts.length cC, .slice AT x.timers.length cT]) x) ∧ Hid (wr.heap[gr]? = some (.cells #[.int .i64 0, .int .i64 0] 68 (0, 0))) ∧ Hid (Below w0.heap.size w0 wr)
def raMu (n : Nat) (a : Act) (_ : World) : Nat := n - (intOf (a.tmps.getD 7 undef)).toNat
set_option maxHeartbeats 4000000 in
set_option maxRecDepth 100000 in
theorem ra_round (xs : List Sn) (rs : List SnR) (A : Option Addr) (c : Nat) (R : Int × Int) (bn gr B : Nat) (w0 wr : World) (f : Nat → Value) (Q0 : Exit → Act → World → Prop) (i : Nat) (AW AC AT : Option Addr) (cW cC cT : Nat) (x : Nt) (hl : xs.length ≤ 1000000) (hlk : i < xs.length) (hgr : w0.heap.size ≤ gr) (hbn : w0.heap.size ≤ bn) (hBw : B ≤ wr.heap.size)
    (HR : Hid (Rd w0 A rs)) (HSS : Hid (Sns w0 rs xs)) (h1 : f 1 = .slice A xs.length c) (h4 : f 4 = .pointer (some ⟨gr, 0, none⟩)) (h6 : f 6 = .pointer (some ⟨bn, 0, none⟩)) (h7 : f 7 = .int .i64 (i : Int))
    (HOK : Hid (Ok x)) (HAU : Hid (R = auditF x (xs.drop i) (i : Int))) (HG : Hid (wr.heap[bn]? = some (.cells #[.int .i64 x.nodes, .int .i64 x.now, .int .i64 x.next, .slice AW x.way.length cW, .slice AC x.cuts.length cC, .slice AT x.timers.length cT] 26 (0, 0)))) (HO : Hid (NetO wr B (.agg #[.int .i64 x.nodes, .int .i64 x.now, .int .i64 x.next, .slice AW x.way.length cW, .slice AC x.cuts.length cC, .slice AT x.timers.length cT]) x)) (HGR : Hid (wr.heap[gr]? = some (.cells #[.int .i64 0, .int .i64 0] 68 (0, 0)))) (HB : Hid (Below w0.heap.size w0 wr))
    (hQ0 : ∀ (d : Option Tmp) (v : Value) c a w, Q0 (.panic c) (a.put d v) w → Q0 (.panic c) a w)
    (hret : Hid (∀ f' w', f' 4 = .pointer (some ⟨gr, 0, none⟩) → R = (9, (i : Int)) → w'.heap[gr]? = some (.cells #[.int .i64 9, .int .i64 (i : Int)] 68 (0, 0)) → Below w0.heap.size w0 w' → Q0 .ret (st 45 f') w')) :
    raBody.wp Tryz.prog (Exit.then (fun a' w' => raI xs (.slice A xs.length c) R bn gr B w0 a' w' ∧ raMu xs.length a' w' < raMu xs.length (st 45 f) wr) Q0) (st 45 f) wr := by
  conv => arg 2; whnf
  have hmu : Hid (raMu xs.length (st 45 f) wr = xs.length - i) := by
    show _ = _
    unfold raMu
    rw [st_getD (by decide), h7]; rfl
  rw [hmu.out]
  rw [show st 45 f = ⟨#[f 0, f 1, f 2, f 3, f 4, f 5, f 6, f 7, f 8, f 9, f 10, f 11, f 12, f 13, f 14, f 15, f 16, f 17, f 18, f 19, f 20, f 21, f 22, f 23, f 24, f 25, f 26, f 27, f 28, f 29, f 30, f 31, f 32, f 33, f 34, f 35, f 36, f 37, f 38, f 39, f 40, f 41, f 42, f 43, f 44], []⟩ by rfl, h1, h4, h6, h7]
  clear h1 h4 h6 h7
  obtain ⟨bl, ol, s, ta, tc, rfl, hs, hts, e0, e1, e2, e3, e4, e5, e6, e7, e8, e9, e10, e11, e12⟩ := HR.out.seen HSS.out i (by rw [HSS.out.1]; exact hlk)
  replace e0 := cell_below HB.out e0
  replace e1 := cell_below HB.out e1
  replace e2 := cell_below HB.out e2
  replace e3 := cell_below HB.out e3
  replace e4 := cell_below HB.out e4
  have hbl : bl < wr.heap.size := World.block_lt_of_cell? wr _ e0
  clear e5 e6 e7 e8 e9 e10 e11 e12
  have hlz := len_ok HOK.out
  obtain ⟨y, hy⟩ : ∃ y, y = doXR x s.a := ⟨_, rfl⟩
  obtain ⟨z, hz⟩ : ∃ z, z = doSR x s.a := ⟨_, rfl⟩
  obtain ⟨k, hk⟩ : ∃ k, k = doER x := ⟨_, rfl⟩
  have hdo := fun (W : World) (hO : NetO W B (.agg #[.int .i64 x.nodes, .int .i64 x.now, .int .i64 x.next, .slice AW x.way.length cW, .slice AC x.cuts.length cC, .slice AT x.timers.length cT]) x) (hB : B ≤ W.heap.size) => RDo_own x s.a B W AW AC AT cW cC cT hO hB (by omega) (by omega) (by omega)
  rw [← hy, ← hz, ← hk] at hdo
  have HDO := Lib.hid hdo
  have HY := Lib.hid hy
  have HZ := Lib.hid hz
  clear hdo hy hz hk hlz
  obtain ⟨⟨k0, k1, k2, k3, k4, k5⟩, -⟩ := blc6 HG.out
  have hlg := bl_lt HG.out
  go_upto_region 8 with fail
  refine wp_cut (fun a wx => ∃ f', a = st 45 f' ∧ f' 1 = .slice (some ⟨bl, ol, none⟩) xs.length c ∧ f' 4 = .pointer (some ⟨gr, 0, none⟩) ∧ f' 6 = .pointer (some ⟨bn, 0, none⟩) ∧ f' 7 = .int .i64 (i : Int) ∧ ∃ (gs : Nat) (AW2 : Option Addr) (cW2 : Nat) (AC2 : Option Addr) (cC2 : Nat) (AT2 : Option Addr) (cT2 : Nat) (AF : Option Addr) (cF : Nat), f' 8 = .pointer (some ⟨gs, 0, none⟩) ∧ Hid (wx.heap[gs]? = some (.cells #[.int .i64 y.nodes, .int .i64 y.now, .int .i64 y.next, .slice AW2 y.way.length cW2, .slice AC2 y.cuts.length cC2, .slice AT2 y.timers.length cT2, .int .i64 z.a.k, .int .i64 z.a.a, .int .i64 z.a.b, .int .i64 z.a.n, .string z.a.data, .int .i64 z.e, .int .i64 z.now, .int .i64 z.l.id, .int .i64 z.l.fr, .int .i64 z.l.to, .int .i64 z.l.rd, .string z.l.data, .slice AF z.ts.length cF, .int .i64 k] 56 (0, 0))) ∧ Hid (NetO wx B (.agg #[.int .i64 y.nodes, .int .i64 y.now, .int .i64 y.next, .slice AW2 y.way.length cW2, .slice AC2 y.cuts.length cC2, .slice AT2 y.timers.length cT2]) y) ∧ Hid (Own wx wr.heap.size 86 (.slice AF z.ts.length cF) z.ts) ∧ Hid (wr.heap.size ≤ gs) ∧ Hid (Below wr.heap.size wr wx)) ?rest ?first
  case first =>
    intro J K' hJ hK'
    refine wp_mixF [0, 1, 2, 3, 4, 5] 6 7 [(7, false)] [(6, false)] 8 (fun w' => Below wr.heap.size wr w')
      (by kernel_rfl) (by kernel_rfl) (by kernel_rfl) (by kernel_rfl) (by kernel_rfl) (by kernel_rfl) (by kernel_rfl) (fun d v c a w h => hQ0 d v c a w h) (Below.refl _ _).drew ?_
    simp only [pick, List.map_cons, List.map_nil, List.getD_cons_zero, List.getD_cons_succ, List.drop_succ_cons, List.drop_zero]
    iterate 6
      apply mix_take
      case hw => rfl
      case hy => intro W hW; obtain ⟨hwc, -⟩ := bcell hW; go_simp; try rfl
      simp only [Act.put, List.setIfInBounds_toArray, List.set_cons_zero, List.set_cons_succ]
    refine mix_nil (fork_do (fun K2 hK2 => ?_) (fun K2 hK2 => ?_))
    · simp only [List.getD_cons_zero, List.getD_cons_succ]
      go_wp2_with fail
      refine (HDO.out _ (NetO.drew HO.out) hBw).mono ?_
      rintro e wd ⟨AW2, cW2, AC2, cC2, AT2, cT2, AF, cF, rfl, hN, hT, hbd⟩
      have hbW : Below wr.heap.size wr wd := below_trans (Below.refl _ wr).drew hbd
      have hsz := hbW.size
      go_wp2
      refine hK2 _ _ hbW ?_
      clear hK2 K2
      refine mix_do fun K2 hK2 => ?_
      go_wp2
      refine hK2 _ _ (below_alloc hbW _) (mix_nil ?_)
      clear hK2 K2
      simp only [List.drop_succ_cons, List.drop_zero]
      have hbZ : ∀ (o : Obj) (cs : Array Value), Below wr.heap.size wr ((wd.alloc o).setRow wd.heap.size cs) := fun o cs => below_setRow (below_alloc hbW _) hsz _
      refine wpList_store_row (by rfl) 56 (.tmp 8) (.tmp 31) (by rfl) wd.heap.size _ (by rfl) (by rfl) 56 _ (bl_new _ _) (by exact sizeSeen) (by rfl) (by simp [Value.oneCell']) ?_
      go_wp2
      exact Met.intro (hJ _ _ ⟨_, st_of 45 (by rfl), rfl, rfl, rfl, rfl, wd.heap.size, AW2, cW2, AC2, cC2, AT2, cT2, AF, cF, rfl, setRow_heap _ _ _ _ _ _ (bl_new _ _), hN _ (newRow_abv _) (HO.out.below (hbZ _ _)), hT _ (newRow_abv _), hsz, hbZ _ _⟩)
    · simp only [List.getD_cons_zero, List.getD_cons_succ]
      go_wp2
      refine hK2 _ _ (below_alloc (Below.refl _ _).drew _) ?_
      clear hK2 K2
      refine mix_do fun K2 hK2 => ?_
      obtain ⟨w1, hw1⟩ : ∃ w1, w1 = World.drew (wr.alloc (.cells #[.int .i64 0, .int .i64 0, .int .i64 0, .slice none 0 0, .slice none 0 0, .slice none 0 0, .int .i64 0, .int .i64 0, .int .i64 0, .int .i64 0, .string ⟨#[]⟩, .int .i64 0, .int .i64 0, .int .i64 0, .int .i64 0, .int .i64 0, .int .i64 0, .string ⟨#[]⟩, .slice none 0 0, .int .i64 0] 56)) := ⟨_, rfl⟩
      rw [← hw1]
      have hb1 : Below wr.heap.size wr w1 := by rw [hw1]; exact (below_alloc (Below.refl _ _) _).drew
      have hz1 : w1.heap[wr.heap.size]? = some (.cells #[.int .i64 0, .int .i64 0, .int .i64 0, .slice none 0 0, .slice none 0 0, .slice none 0 0, .int .i64 0, .int .i64 0, .int .i64 0, .int .i64 0, .string ⟨#[]⟩, .int .i64 0, .int .i64 0, .int .i64 0, .int .i64 0, .int .i64 0, .int .i64 0, .string ⟨#[]⟩, .slice none 0 0, .int .i64 0] 56 (0, 0)) := by rw [hw1]; exact bl_drew (bl_new wr _)
      clear hw1
      go_wp2_with fail
      have hs1 := hb1.size
      refine (HDO.out _ (HO.out.below hb1) (by omega)).mono ?_
      rintro e wd ⟨AW2, cW2, AC2, cC2, AT2, cT2, AF, cF, rfl, hN, hT, hbd⟩
      have hbW : Below wr.heap.size wr wd := below_trans hb1 hbd
      have hzd := bl_below hz1 hbd
      have hlt1 := bl_lt hz1
      go_wp2
      refine hK2 _ _ hbW (mix_nil ?_)
      clear hK2 K2
      simp only [List.drop_succ_cons, List.drop_zero]
      have hbZ : ∀ (cs : Array Value), Below wr.heap.size wr (wd.setRow wr.heap.size cs) := fun cs => below_setRow hbW (Nat.le_refl _) _
      refine wpList_store_row (by rfl) 56 (.tmp 8) (.tmp 31) (by rfl) wr.heap.size _ (by rfl) (by rfl) 56 _ hzd (by exact sizeSeen) (by rfl) (by simp [Value.oneCell']) ?_
      go_wp2
      exact Met.intro (hJ _ _ ⟨_, st_of 45 (by rfl), rfl, rfl, rfl, rfl, wr.heap.size, AW2, cW2, AC2, cC2, AT2, cT2, AF, cF, rfl, setRow_heap _ _ _ _ _ _ hzd, hN _ (row_abv _ hlt1) (HO.out.below (hbZ _)), (hT _ (row_abv _ hlt1)).weaken hs1, Nat.le_refl _, hbZ _⟩)
  case rest =>
    rintro a' wx ⟨f', rfl, h1, h4, h6, h7, gs, AW2, cW2, AC2, cC2, AT2, cT2, AF, cF, h8, HGS, HOX, HTX, HSX, HBX⟩
    rw [show st 45 f' = ⟨#[f' 0, f' 1, f' 2, f' 3, f' 4, f' 5, f' 6, f' 7, f' 8, f' 9, f' 10, f' 11, f' 12, f' 13, f' 14, f' 15, f' 16, f' 17, f' 18, f' 19, f' 20, f' 21, f' 22, f' 23, f' 24, f' 25, f' 26, f' 27, f' 28, f' 29, f' 30, f' 31, f' 32, f' 33, f' 34, f' 35, f' 36, f' 37, f' 38, f' 39, f' 40, f' 41, f' 42, f' 43, f' 44], []⟩ by rfl, h1, h4, h6, h7, h8]
    clear h1 h4 h6 h7 h8 e0 e1 e2 e3 e4 hbl k0 k1 k2 k3 k4 k5 hlg
    obtain ⟨bl', ol', s', ta', tc', he9, hs', hts', e0, e1, e2, e3, e4, e5, e6, e7, e8, e9, e10, e11, e12⟩ := (HR.out.below (HB.out.trans (HBX.out.mono HB.out.size))).seen (HSS.out.below (HB.out.trans (HBX.out.mono HB.out.size))) i (by rw [HSS.out.1]; exact hlk)
    obtain ⟨rfl, rfl⟩ : bl = bl' ∧ ol = ol' := by cases he9; exact ⟨rfl, rfl⟩
    obtain rfl : s = s' := Option.some.inj (hs.out.symm.trans hs'.out)
    clear he9 hs' hts
    have hbl : bl < wx.heap.size := World.block_lt_of_cell? wx _ e0
    obtain ⟨⟨d0, d1, d2, d3, d4, d5, d6, d7, d8, d9, d10, d11, d12, d13, d14, d15, d16, d17, d18, d19⟩, -⟩ := blc20 HGS.out
    have hlgs := bl_lt HGS.out
    go_upto_region 9 with fail
    refine wp_still_tail 6 (by kernel_rfl) (by kernel_rfl) ?_
    simp only [List.take_succ_cons, List.take_zero, List.drop_succ_cons, List.drop_zero]
    repeat still_step
    refine wpStill_nil ?_
    go_wp2_with fail
    have hzl : z.ts.length ≤ 300 := by rw [HZ.out]; exact doSR_ts x s.a HOK.out
    have hsame := RSameSeen_any z s AF ta' cF tc' wx.drew (Rd.drew (Own.rd HTX.out)) (Rd.drew hts'.out) (by omega)
    have hau := HAU.out
    rw [drop_at hs, audit_cons, ← HZ.out, ← HY.out] at hau
    by_cases hzs : z = s
    · rw [decide_eq_true hzs] at hsame
      rw [if_pos hzs] at hau
      have HA2 := Lib.hid hau
      have HOY : Hid (Ok y) := by rw [HY.out, doXR_ok HOK.out]; exact do_keeps HOK.out _
      refine calls_below hsame ?_
      intro w2 hb2
      have hbx : Below wx.heap.size wx w2 := below_trans (Below.refl _ wx).drew hb2
      have HGS2 := Lib.hid (bl_below HGS.out hbx)
      have HG2 := Lib.hid (bl_below (bl_below HG.out HBX.out) hbx)
      have HGR2 := Lib.hid (bl_below (bl_below HGR.out HBX.out) hbx)
      have HO2 := Lib.hid (HOX.out.below hbx)
      have HB2 := Lib.hid (HB.out.trans ((below_trans HBX.out hbx).mono HB.out.size))
      have hbnl := bl_lt HG.out
      have hgsw := HSX.out
      have n1 : ¬ bn = gs := by omega
      have n2 : ¬ gs = bn := by omega
      have hne : gr ≠ bn := by
        rintro rfl
        have h1 := HG.out.symm.trans HGR.out
        injection h1 with h1
        injection h1 with h2
        simp at h2
      clear hsame hau hzs hb2 hbx e0 e1 e2 e3 e4 e5 e6 e7 e8 e9 e10 e11 e12 hbl d0 d1 d2 d3 d4 d5 d6 d7 d8 d9 d10 d11 d12 d13 d14 d15 d16 d17 d18 d19 hlgs
      obtain ⟨⟨d0, d1, d2, d3, d4, d5, d6, d7, d8, d9, d10, d11, d12, d13, d14, d15, d16, d17, d18, d19⟩, -⟩ := blc20 HGS2.out
      have hlgs := bl_lt HGS2.out
      obtain ⟨⟨k0, k1, k2, k3, k4, k5⟩, f0, f1, f2, f3, f4, f5⟩ := blc6 HG2.out
      have hlg := bl_lt HG2.out
      go_wp2
      refine ⟨⟨_, st_of 45 (by rfl), i + 1, AW2, cW2, AC2, cC2, AT2, cT2, y, by omega, rfl, rfl, rfl, by show _ = Value.int .i64 _; go_num, HOY, by show R = _; rw [HA2.out]; rfl, bl_all6 HG2.out _ _ _ _ _ _, HO2.out.ne6 HG2.out _ _ _ _ _ _, bl_far6 HGR2.out hne _ _ _ _ _ _, below_set6 HB2.out hbn _ _ _ _ _ _⟩, ?_⟩
      show xs.length - (intOf (.int .i64 ((i : Int) + 1))).toNat < xs.length - i
      simp [intOf]; omega
    · rw [decide_eq_false hzs] at hsame
      rw [if_neg hzs] at hau
      have HA2 := Lib.hid hau
      refine calls_below hsame ?_
      intro w2 hb2
      have hbx : Below wx.heap.size wx w2 := below_trans (Below.refl _ wx).drew hb2
      have HGR2 := Lib.hid (bl_below (bl_below HGR.out HBX.out) hbx)
      have HB2 := Lib.hid (HB.out.trans ((below_trans HBX.out hbx).mono HB.out.size))
      clear hsame hau hzs hb2 hbx e0 e1 e2 e3 e4 e5 e6 e7 e8 e9 e10 e11 e12 hbl d0 d1 d2 d3 d4 d5 d6 d7 d8 d9 d10 d11 d12 d13 d14 d15 d16 d17 d18 d19 hlgs
      have q0 := (bl_cell HGR2.out 0).trans rfl
      have q1 := (bl_cell HGR2.out 1).trans rfl
      have u0 := bl_frozen HGR2.out 0
      have u1 := bl_frozen HGR2.out 1
      have hlr := bl_lt HGR2.out
      go_wp2
      rw [st_of 45 (by rfl)]
      exact hret.out _ _ rfl HA2.out (by simpa using bl_set (bl_set HGR2.out 0 (.int .i64 9)) 1 (.int .i64 (i : Int))) ((HB2.out.setCell hgr _).setCell hgr _)
end Go.Proofs.YthlbmcfliejdiaaGreat
end

section
set_option linter.unusedVariables false
set_option linter.unusedSimpArgs false
namespace Go.Proofs.YthlbmcfliejdiaaGreat
open Go.RowKit

set_option maxHeartbeats 2000000 in
set_option maxRecDepth 100000 in
theorem RAudit_good (n : Int) (xs : List Sn) (rs : List SnR) (A : Option Addr) (c : Nat) (w : World) (h0 : 1 ≤ n) (h16 : n ≤ 16) (hR : Rd w A rs) (hS : Sns w rs xs) (hl : xs.length ≤ 1000000) :
    Calls Tryz.prog 26 #[.int .i64 n, .slice A xs.length c] w fun e w' => e = .returned (.agg #[.int .i64 (auditF (newX n) xs 0).1, .int .i64 (auditF (newX n) xs 0).2]) ∧ Below w.heap.size w w' := by
  have HN := Lib.hid (fun W => RNew_good n W h0 h16)
  have HX0 := Lib.hid (newX_ok h0 h16)
  have HR := Lib.hid hR
  have HSS := Lib.hid hS
  obtain ⟨R, hRR⟩ : ∃ R, R = auditF (newX n) xs 0 := ⟨_, rfl⟩
  have HRR := Lib.hid hRR
  rw [← hRR]
  clear hR hS hRR h0 h16
  go_enter Tryz.func26, Tryz.ntmps26
  go_wp2_with fail
  refine calls_below (HN.out _) ?_
  intro w1 hb1
  have HGR := Lib.hid (bl_below (bl_new w (.cells #[.int .i64 0, .int .i64 0] 68)) hb1)
  have HB1 := Lib.hid (below_trans (below_alloc (Below.refl _ _) (.cells #[.int .i64 0, .int .i64 0] 68)) hb1)
  have hsz : w.heap.size ≤ w1.heap.size := HB1.out.size
  clear hb1
  go_upto_region 6 with fail
  obtain ⟨w2, hw2⟩ : ∃ w2, w2 = (w1.alloc (.cells #[.int .i64 n, .int .i64 0, .int .i64 0, .slice none 0 0, .slice none 0 0, .slice none 0 0, .int .i64 0, .int .i64 0, .int .i64 0, .int .i64 0, .int .i64 0, .string ⟨#[]⟩, .slice none 0 0, .int .i64 0] 35)).alloc (.cells #[.int .i64 n, .int .i64 0, .int .i64 0, .slice none 0 0, .slice none 0 0, .slice none 0 0] 26) := ⟨_, rfl⟩
  have HB2 : Hid (Below w.heap.size w w2) := by rw [hw2]; exact below_alloc (below_alloc HB1.out _) _
  have HG2 : Hid (w2.heap[w1.heap.size + 1]? = some (.cells #[.int .i64 n, .int .i64 0, .int .i64 0, .slice none 0 0, .slice none 0 0, .slice none 0 0] 26 (0, 0))) := by rw [hw2]; exact bl_new2 _ _ _
  have HGR2 : Hid (w2.heap[w.heap.size]? = some (.cells #[.int .i64 0, .int .i64 0] 68 (0, 0))) := by rw [hw2]; exact bl_alloc (bl_alloc HGR.out _) _
  rw [← hw2]
  clear hw2
  refine wp_st 45 (by rfl) fun f0 hf0 => ?_
  refine wp_loop (raI xs (.slice A xs.length c) R (w1.heap.size + 1) w.heap.size w.heap.size w) (raMu xs.length) ⟨f0, rfl, 0, none, 0, none, 0, none, 0, newX n, Nat.zero_le _, (hf0 1).trans rfl, (hf0 4).trans rfl, (hf0 6).trans rfl, (hf0 7).trans rfl, HX0, HRR, HG2, ⟨none, 0, none, 0, none, 0, rfl, Own.nil _ _ _, Own.nil _ _ _, Own.nil _ _ _⟩, HGR2, HB2⟩ ?_
  clear hf0 f0 HG2 HGR2 HB2
  rintro a wr ⟨f, rfl, i, AW, cW, AC, cC, AT, cT, x, hi, h1, h4, h6, h7, HOK, HAU, HG, HO, HGR3, HB⟩
  by_cases hlk : i < xs.length
  · exact ra_round xs rs A c R (w1.heap.size + 1) w.heap.size w.heap.size w wr f _ i AW AC AT cW cC cT x hl hlk (Nat.le_refl _) (by omega) HB.out.size HR HSS h1 h4 h6 h7 HOK HAU HG HO HGR3 HB (fun d _ _ _ _ h => by cases d <;> exact h)
      (fun f' w' h4' hR hg hb => by
        show bodyPost Tryz.prog Tryz.f26 (fun e w' => e = .returned (.agg #[.int .i64 R.1, .int .i64 R.2]) ∧ Below w.heap.size w w') .ret (st 45 f') w'
        exact ret_c Tryz.results26 w.heap.size 68 _ _ ((st_getD (n := 45) (i := 4) (by decide)).trans h4') hg Tryz.underlying68 rfl sizeChecked rfl ⟨by rw [hR], hb⟩)
  obtain rfl : i = xs.length := by omega
  have hau := HAU.out
  rw [List.drop_length] at hau
  have HA2 : Hid (R = (0, 0)) := hau
  rw [show st 45 f = ⟨#[f 0, f 1, f 2, f 3, f 4, f 5, f 6, f 7, f 8, f 9, f 10, f 11, f 12, f 13, f 14, f 15, f 16, f 17, f 18, f 19, f 20, f 21, f 22, f 23, f 24, f 25, f 26, f 27, f 28, f 29, f 30, f 31, f 32, f 33, f 34, f 35, f 36, f 37, f 38, f 39, f 40, f 41, f 42, f 43, f 44], []⟩ by rfl, h1, h4, h6, h7]
  have q0 := (bl_cell HGR3.out 0).trans rfl
  have q1 := (bl_cell HGR3.out 1).trans rfl
  have u0 := bl_frozen HGR3.out 0
  have u1 := bl_frozen HGR3.out 1
  have hlr := bl_lt HGR3.out
  clear hau HAU h1 h4 h6 h7
  go_wp2
  exact ret_c Tryz.results26 w.heap.size 68 #[.int .i64 0, .int .i64 0] _ rfl (by simpa using bl_set (bl_set HGR3.out 0 (.int .i64 0)) 1 (.int .i64 0)) Tryz.underlying68 rfl sizeChecked rfl ⟨by rw [HA2.out], (HB.out.setCell (Nat.le_refl _) _).setCell (Nat.le_refl _) _⟩
end Go.Proofs.YthlbmcfliejdiaaGreat
end

section
set_option linter.unusedVariables false
set_option linter.unusedSimpArgs false
namespace Go.Proofs.YthlbmcfliejdiaaGreat
open Go.RowKit

theorem sizePlayed : (Tryz.prog.info? 62).map (·.size) = some 8 := by kernel_rfl
theorem blc8 {w : World} {b : Nat} {t : TypeId} {c0 c1 c2 c3 c4 c5 c6 c7 : Value} (h : w.heap[b]? = some (.cells #[c0, c1, c2, c3, c4, c5, c6, c7] t (0, 0))) :
    (w.cell? ⟨b, 0, none⟩ = some c0 ∧ w.cell? ⟨b, 1, none⟩ = some c1 ∧ w.cell? ⟨b, 2, none⟩ = some c2 ∧ w.cell? ⟨b, 3, none⟩ = some c3 ∧ w.cell? ⟨b, 4, none⟩ = some c4 ∧ w.cell? ⟨b, 5, none⟩ = some c5 ∧ w.cell? ⟨b, 6, none⟩ = some c6 ∧ w.cell? ⟨b, 7, none⟩ = some c7) ∧ ∀ j, w.frozen? ⟨b, j, none⟩ = false :=
  ⟨⟨(bl_cell h 0).trans rfl, (bl_cell h 1).trans rfl, (bl_cell h 2).trans rfl, (bl_cell h 3).trans rfl, (bl_cell h 4).trans rfl, (bl_cell h 5).trans rfl, (bl_cell h 6).trans rfl, (bl_cell h 7).trans rfl⟩, fun j => bl_frozen h j⟩
section
variable {w : World} {g B : Nat} {t : TypeId} {a0 a1 a2 a3 a4 a5 : Value}
def set6 (w : World) (g : Nat) (a0 a1 a2 a3 a4 a5 : Value) : World := ((((((w.setCell ⟨g, 0, none⟩ a0).setCell ⟨g, 1, none⟩ a1).setCell ⟨g, 2, none⟩ a2).setCell ⟨g, 3, none⟩ a3).setCell ⟨g, 4, none⟩ a4).setCell ⟨g, 5, none⟩ a5)
theorem set6_own {α : Type} [Enc α] {e : TypeId} {v : Value} {xs : List α} (h : Own w B e v xs) (hne : v.ownBlock ≠ some g) : Own (set6 w g a0 a1 a2 a3 a4 a5) B e v xs := by
  unfold set6
  repeat (refine Own.setCell ?_ (by exact hne) _)
  exact h
theorem set6_net {x : Nt} {v : Value} {cs : Array Value} {fr : Nat × Nat} (h : NetO w B v x) (hp : w.heap[g]? = some (.cells cs t fr)) (h1 : 33 ≠ t) (h2 : 96 ≠ t) (h3 : 86 ≠ t) : NetO (set6 w g a0 a1 a2 a3 a4 a5) B v x := by
  obtain ⟨A1, c1, A2, c2, A3, c3, e', oW, oC, oT⟩ := h
  exact ⟨A1, c1, A2, c2, A3, c3, e', set6_own oW (oW.ne hp h1), set6_own oC (oC.ne hp h2), set6_own oT (oT.ne hp h3)⟩
theorem set6_sns {rs : List SnR} {xs : List Sn} {cs : Array Value} {fr : Nat × Nat} (h : SnsO w B rs xs) (hp : w.heap[g]? = some (.cells cs t fr)) (h3 : 86 ≠ t) : SnsO (set6 w g a0 a1 a2 a3 a4 a5) B rs xs := by
  refine ⟨h.1, fun i r s hr hs => ?_⟩
  obtain ⟨q1, q2, q3, q4, q5, q6⟩ := h.2 i r s hr hs
  exact ⟨q1, q2, q3, q4, q5, set6_own q6 (q6.ne hp h3)⟩
theorem set6_all {fr : Nat × Nat} {c0 c1 c2 c3 c4 c5 c6 c7 : Value} (h : w.heap[g]? = some (.cells #[c0, c1, c2, c3, c4, c5, c6, c7] t fr)) : (set6 w g a0 a1 a2 a3 a4 a5).heap[g]? = some (.cells #[a0, a1, a2, a3, a4, a5, c6, c7] t fr) := by
  unfold set6
  simpa using bl_set (bl_set (bl_set (bl_set (bl_set (bl_set h 0 a0) 1 a1) 2 a2) 3 a3) 4 a4) 5 a5
theorem set6_far {k : Nat} {o : Obj} (h : w.heap[k]? = some o) (hne : k ≠ g) : (set6 w g a0 a1 a2 a3 a4 a5).heap[k]? = some o := bl_far6 h hne _ _ _ _ _ _
theorem set6_below {w0 : World} (h : Below B w0 w) (hb : B ≤ g) : Below B w0 (set6 w g a0 a1 a2 a3 a4 a5) := below_set6 h hb _ _ _ _ _ _
end
noncomputable def rpBody : Code := ((Tryz.f23.body.bind loopF).getD .skip)
def rpI (xs : List Ac) (v1 : Value) (x0 : Nt) (bo gr B : Nat) (w0 : World) (a : Act) (wr : World) : Prop :=
  ∃ f, a = st 44 f ∧ ∃ (i : Nat) (AW : Option Addr) (cW : Nat) (AC : Option Addr) (cC : Nat) (AT : Option Addr) (cT : Nat) (x : Nt) (u : Value) (rs : List SnR), i ≤ xs.length ∧ f 1 = v1 ∧ f 4 = .pointer (some ⟨gr, 0, none⟩) ∧ f 6 = .pointer (some ⟨bo, 0, none⟩) ∧ f 7 = .int .i64 (i : Int) ∧
    Hid (Ok x) ∧ Hid (x = playX x0 (xs.take i)) ∧ Hid (wr.heap[bo]? = some (.cells #[.int .i64 x.nodes, .int .i64 x.now, .int .i64 x.next, .slice AW x.way.length cW, .slice AC x.cuts.length cC, .slice AT x.timers.length cT, u, .int .i64 0] 62 (0, 0))) ∧ Hid (NetO wr B (.agg #[.int .i64 x.nodes, .int .i64 x.now, .int .i64 x.next, .slice AW x.way.length cW, .slice AC x.cuts.length cC, .slice AT x.timers.length cT]) x) ∧ Hid (Own wr B 52 u rs) ∧ Hid (SnsO wr B rs (playS x0 (xs.take i))) ∧ Hid (wr.heap[gr]? = some (.cells #[.int .i64 0, .int .i64 0, .int .i64 0, .slice none 0 0, .slice none 0 0, .slice none 0 0, .slice none 0 0, .int .i64 0] 62 (0, 0))) ∧ Hid (Below w0.heap.size w0 wr)
def rpMu (n : Nat) (a : Act) (_ : World) : Nat := n - (intOf (a.tmps.getD 7 undef)).toNat
set_option maxHeartbeats 4000000 in
set_option maxRecDepth 100000 in
theorem rp_round (xs : List Ac) (A : Option Addr) (c : Nat) (x0 : Nt) (bo gr B : Nat) (w0 wr : World) (f : Nat → Value) (Q0 : Exit → Act → World → Prop) (i : Nat) (AW AC AT : Option Addr) (cW cC cT : Nat) (x : Nt) (Au : Option Addr) (cu : Nat) (rs : List SnR) (hl : xs.length ≤ 1000000) (hlk : i < xs.length) (hgr : w0.heap.size ≤ gr) (hbo : w0.heap.size ≤ bo) (hgb : gr ≠ bo) (hBw : B ≤ wr.heap.size) (hB0 : B = w0.heap.size)
    (HR : Hid (Rd w0 A xs)) (h1 : f 1 = .slice A xs.length c) (h4 : f 4 = .pointer (some ⟨gr, 0, none⟩)) (h6 : f 6 = .pointer (some ⟨bo, 0, none⟩)) (h7 : f 7 = .int .i64 (i : Int))
    (HOK : Hid (Ok x)) (HXE : Hid (x = playX x0 (xs.take i))) (HG : Hid (wr.heap[bo]? = some (.cells #[.int .i64 x.nodes, .int .i64 x.now, .int .i64 x.next, .slice AW x.way.length cW, .slice AC x.cuts.length cC, .slice AT x.timers.length cT, .slice Au rs.length cu, .int .i64 0] 62 (0, 0)))) (HO : Hid (NetO wr B (.agg #[.int .i64 x.nodes, .int .i64 x.now, .int .i64 x.next, .slice AW x.way.length cW, .slice AC x.cuts.length cC, .slice AT x.timers.length cT]) x)) (HU : Hid (Own wr B 52 (.slice Au rs.length cu) rs)) (HS : Hid (SnsO wr B rs (playS x0 (xs.take i)))) (HGR : Hid (wr.heap[gr]? = some (.cells #[.int .i64 0, .int .i64 0, .int .i64 0, .slice none 0 0, .slice none 0 0, .slice none 0 0, .slice none 0 0, .int .i64 0] 62 (0, 0)))) (HB : Hid (Below w0.heap.size w0 wr))
    (hQ0 : ∀ (d : Option Tmp) (v : Value) c a w, Q0 (.panic c) (a.put d v) w → Q0 (.panic c) a w) :
    rpBody.wp Tryz.prog (Exit.then (fun a' w' => rpI xs (.slice A xs.length c) x0 bo gr B w0 a' w' ∧ rpMu xs.length a' w' < rpMu xs.length (st 44 f) wr) Q0) (st 44 f) wr := by
  conv => arg 2; whnf
  have hmu : Hid (rpMu xs.length (st 44 f) wr = xs.length - i) := by
    show _ = _
    unfold rpMu
    rw [st_getD (by decide), h7]; rfl
  rw [hmu.out]
  rw [show st 44 f = ⟨#[f 0, f 1, f 2, f 3, f 4, f 5, f 6, f 7, f 8, f 9, f 10, f 11, f 12, f 13, f 14, f 15, f 16, f 17, f 18, f 19, f 20, f 21, f 22, f 23, f 24, f 25, f 26, f 27, f 28, f 29, f 30, f 31, f 32, f 33, f 34, f 35, f 36, f 37, f 38, f 39, f 40, f 41, f 42, f 43], []⟩ by rfl, h1, h4, h6, h7]
  clear h1 h4 h6 h7
  obtain ⟨bl, ol, d, rfl, hd, e0, e1, e2, e3, e4⟩ := (HR.out.below HB.out).ac i hlk
  have hbl : bl < wr.heap.size := World.block_lt_of_cell? wr _ e0
  have hlz := len_ok HOK.out
  obtain ⟨y, hy⟩ : ∃ y, y = doXR x d := ⟨_, rfl⟩
  obtain ⟨z, hz⟩ : ∃ z, z = doSR x d := ⟨_, rfl⟩
  obtain ⟨k, hk⟩ : ∃ k, k = doER x := ⟨_, rfl⟩
  have hdo := fun (W : World) (hO : NetO W B (.agg #[.int .i64 x.nodes, .int .i64 x.now, .int .i64 x.next, .slice AW x.way.length cW, .slice AC x.cuts.length cC, .slice AT x.timers.length cT]) x) (hB : B ≤ W.heap.size) => RDo_own x d B W AW AC AT cW cC cT hO hB (by omega) (by omega) (by omega)
  rw [← hy, ← hz, ← hk] at hdo
  have HDO := Lib.hid hdo
  have HY := Lib.hid hy
  have HZ := Lib.hid hz
  clear hdo hy hz hk hlz
  obtain ⟨⟨k0, k1, k2, k3, k4, k5, k6, k7⟩, -⟩ := blc8 HG.out
  have hlg := bl_lt HG.out
  go_upto_region 8 with fail
  refine wp_cut (fun a wx => ∃ f', a = st 44 f' ∧ f' 1 = .slice (some ⟨bl, ol, none⟩) xs.length c ∧ f' 4 = .pointer (some ⟨gr, 0, none⟩) ∧ f' 6 = .pointer (some ⟨bo, 0, none⟩) ∧ f' 7 = .int .i64 (i : Int) ∧ ∃ (gs : Nat) (AW2 : Option Addr) (cW2 : Nat) (AC2 : Option Addr) (cC2 : Nat) (AT2 : Option Addr) (cT2 : Nat) (AF : Option Addr) (cF : Nat), f' 8 = .pointer (some ⟨gs, 0, none⟩) ∧ Hid (wx.heap[gs]? = some (.cells #[.int .i64 y.nodes, .int .i64 y.now, .int .i64 y.next, .slice AW2 y.way.length cW2, .slice AC2 y.cuts.length cC2, .slice AT2 y.timers.length cT2, .int .i64 z.a.k, .int .i64 z.a.a, .int .i64 z.a.b, .int .i64 z.a.n, .string z.a.data, .int .i64 z.e, .int .i64 z.now, .int .i64 z.l.id, .int .i64 z.l.fr, .int .i64 z.l.to, .int .i64 z.l.rd, .string z.l.data, .slice AF z.ts.length cF, .int .i64 k] 56 (0, 0))) ∧ Hid (NetO wx B (.agg #[.int .i64 y.nodes, .int .i64 y.now, .int .i64 y.next, .slice AW2 y.way.length cW2, .slice AC2 y.cuts.length cC2, .slice AT2 y.timers.length cT2]) y) ∧ Hid (Own wx wr.heap.size 86 (.slice AF z.ts.length cF) z.ts) ∧ Hid (wr.heap.size ≤ gs) ∧ Hid (Below wr.heap.size wr wx)) ?rest ?first
  case first =>
    intro J K' hJ hK'
    refine wp_mixF [0, 1, 2, 3, 4, 5] 6 7 [(7, false)] [(6, false)] 8 (fun w' => Below wr.heap.size wr w')
      (by kernel_rfl) (by kernel_rfl) (by kernel_rfl) (by kernel_rfl) (by kernel_rfl) (by kernel_rfl) (by kernel_rfl) (fun d v c a w h => hQ0 d v c a w h) (Below.refl _ _).drew ?_
    simp only [pick, List.map_cons, List.map_nil, List.getD_cons_zero, List.getD_cons_succ, List.drop_succ_cons, List.drop_zero]
    iterate 6
      apply mix_take
      case hw => rfl
      case hy => intro W hW; obtain ⟨hwc, -⟩ := bcell hW; go_simp; try rfl
      simp only [Act.put, List.setIfInBounds_toArray, List.set_cons_zero, List.set_cons_succ]
    refine mix_nil (fork_do (fun K2 hK2 => ?_) (fun K2 hK2 => ?_))
    · simp only [List.getD_cons_zero, List.getD_cons_succ]
      go_wp2_with fail
      refine (HDO.out _ (NetO.drew HO.out) hBw).mono ?_
      rintro e wd ⟨AW2, cW2, AC2, cC2, AT2, cT2, AF, cF, rfl, hN, hT, hbd⟩
      have hbW : Below wr.heap.size wr wd := below_trans (Below.refl _ wr).drew hbd
      have hsz := hbW.size
      go_wp2
      refine hK2 _ _ hbW ?_
      clear hK2 K2
      refine mix_do fun K2 hK2 => ?_
      go_wp2
      refine hK2 _ _ (below_alloc hbW _) (mix_nil ?_)
      clear hK2 K2
      simp only [List.drop_succ_cons, List.drop_zero]
      have hbZ : ∀ (o : Obj) (cs : Array Value), Below wr.heap.size wr ((wd.alloc o).setRow wd.heap.size cs) := fun o cs => below_setRow (below_alloc hbW _) hsz _
      refine wpList_store_row (by rfl) 56 (.tmp 8) (.tmp 32) (by rfl) wd.heap.size _ (by rfl) (by rfl) 56 _ (bl_new _ _) (by exact sizeSeen) (by rfl) (by simp [Value.oneCell']) ?_
      go_wp2
      exact Met.intro (hJ _ _ ⟨_, st_of 44 (by rfl), rfl, rfl, rfl, rfl, wd.heap.size, AW2, cW2, AC2, cC2, AT2, cT2, AF, cF, rfl, setRow_heap _ _ _ _ _ _ (bl_new _ _), hN _ (newRow_abv _) (HO.out.below (hbZ _ _)), hT _ (newRow_abv _), hsz, hbZ _ _⟩)
    · simp only [List.getD_cons_zero, List.getD_cons_succ]
      go_wp2
      refine hK2 _ _ (below_alloc (Below.refl _ _).drew _) ?_
      clear hK2 K2
      refine mix_do fun K2 hK2 => ?_
      obtain ⟨w1, hw1⟩ : ∃ w1, w1 = World.drew (wr.alloc (.cells #[.int .i64 0, .int .i64 0, .int .i64 0, .slice none 0 0, .slice none 0 0, .slice none 0 0, .int .i64 0, .int .i64 0, .int .i64 0, .int .i64 0, .string ⟨#[]⟩, .int .i64 0, .int .i64 0, .int .i64 0, .int .i64 0, .int .i64 0, .int .i64 0, .string ⟨#[]⟩, .slice none 0 0, .int .i64 0] 56)) := ⟨_, rfl⟩
      rw [← hw1]
      have hb1 : Below wr.heap.size wr w1 := by rw [hw1]; exact (below_alloc (Below.refl _ _) _).drew
      have hz1 : w1.heap[wr.heap.size]? = some (.cells #[.int .i64 0, .int .i64 0, .int .i64 0, .slice none 0 0, .slice none 0 0, .slice none 0 0, .int .i64 0, .int .i64 0, .int .i64 0, .int .i64 0, .string ⟨#[]⟩, .int .i64 0, .int .i64 0, .int .i64 0, .int .i64 0, .int .i64 0, .int .i64 0, .string ⟨#[]⟩, .slice none 0 0, .int .i64 0] 56 (0, 0)) := by rw [hw1]; exact bl_drew (bl_new wr _)
      clear hw1
      go_wp2_with fail
      have hs1 := hb1.size
      refine (HDO.out _ (HO.out.below hb1) (by omega)).mono ?_
      rintro e wd ⟨AW2, cW2, AC2, cC2, AT2, cT2, AF, cF, rfl, hN, hT, hbd⟩
      have hbW : Below wr.heap.size wr wd := below_trans hb1 hbd
      have hzd := bl_below hz1 hbd
      have hlt1 := bl_lt hz1
      go_wp2
      refine hK2 _ _ hbW (mix_nil ?_)
      clear hK2 K2
      simp only [List.drop_succ_cons, List.drop_zero]
      have hbZ : ∀ (cs : Array Value), Below wr.heap.size wr (wd.setRow wr.heap.size cs) := fun cs => below_setRow hbW (Nat.le_refl _) _
      refine wpList_store_row (by rfl) 56 (.tmp 8) (.tmp 32) (by rfl) wr.heap.size _ (by rfl) (by rfl) 56 _ hzd (by exact sizeSeen) (by rfl) (by simp [Value.oneCell']) ?_
      go_wp2
      exact Met.intro (hJ _ _ ⟨_, st_of 44 (by rfl), rfl, rfl, rfl, rfl, wr.heap.size, AW2, cW2, AC2, cC2, AT2, cT2, AF, cF, rfl, setRow_heap _ _ _ _ _ _ hzd, hN _ (row_abv _ hlt1) (HO.out.below (hbZ _)), (hT _ (row_abv _ hlt1)).weaken hs1, Nat.le_refl _, hbZ _⟩)
  case rest =>
    rintro a' wx ⟨f', rfl, h1, h4, h6, h7, gs, AW2, cW2, AC2, cC2, AT2, cT2, AF, cF, h8, HGS, HOX, HTX, HSX, HBX⟩
    rw [show st 44 f' = ⟨#[f' 0, f' 1, f' 2, f' 3, f' 4, f' 5, f' 6, f' 7, f' 8, f' 9, f' 10, f' 11, f' 12, f' 13, f' 14, f' 15, f' 16, f' 17, f' 18, f' 19, f' 20, f' 21, f' 22, f' 23, f' 24, f' 25, f' 26, f' 27, f' 28, f' 29, f' 30, f' 31, f' 32, f' 33, f' 34, f' 35, f' 36, f' 37, f' 38, f' 39, f' 40, f' 41, f' 42, f' 43], []⟩ by rfl, h1, h4, h6, h7, h8]
    clear h1 h4 h6 h7 h8 e0 e1 e2 e3 e4 hbl k0 k1 k2 k3 k4 k5 k6 k7 hlg
    have HGX := Lib.hid (bl_below HG.out HBX.out)
    have HGRX := Lib.hid (bl_below HGR.out HBX.out)
    have HUX := Lib.hid (HU.out.below HBX.out)
    have HSNX := Lib.hid (HS.out.below HBX.out)
    have HBB := Lib.hid (HB.out.trans (HBX.out.mono HB.out.size))
    obtain ⟨⟨k0, k1, k2, k3, k4, k5, k6, k7⟩, hfz⟩ := blc8 HGX.out
    have f0 := hfz 0
    have f1 := hfz 1
    have f2 := hfz 2
    have f3 := hfz 3
    have f4 := hfz 4
    have f5 := hfz 5
    have hlg := bl_lt HGX.out
    have hlb := bl_lt HG.out
    obtain ⟨⟨d0, d1, d2, d3, d4, d5, d6, d7, d8, d9, d10, d11, d12, d13, d14, d15, d16, d17, d18, d19⟩, -⟩ := blc20 HGS.out
    have hlgs := bl_lt HGS.out
    have hgsw := HSX.out
    have n1 : ¬ bo = gs := by omega
    have n2 : ¬ gs = bo := by omega
    go_upto_region 10 with fail
    change Code.wp _ _ _ _ (set6 wx bo (.int .i64 y.nodes) (.int .i64 y.now) (.int .i64 y.next) (.slice AW2 y.way.length cW2) (.slice AC2 y.cuts.length cC2) (.slice AT2 y.timers.length cT2))
    obtain ⟨W9, hW9⟩ : ∃ W9, W9 = set6 wx bo (.int .i64 y.nodes) (.int .i64 y.now) (.int .i64 y.next) (.slice AW2 y.way.length cW2) (.slice AC2 y.cuts.length cC2) (.slice AT2 y.timers.length cT2) := ⟨_, rfl⟩
    have HG9 : Hid (W9.heap[bo]? = some (.cells #[.int .i64 y.nodes, .int .i64 y.now, .int .i64 y.next, .slice AW2 y.way.length cW2, .slice AC2 y.cuts.length cC2, .slice AT2 y.timers.length cT2, .slice Au rs.length cu, .int .i64 0] 62 (0, 0))) := by rw [hW9]; exact set6_all HGX.out
    have HGS9 : Hid (W9.heap[gs]? = some (.cells #[.int .i64 y.nodes, .int .i64 y.now, .int .i64 y.next, .slice AW2 y.way.length cW2, .slice AC2 y.cuts.length cC2, .slice AT2 y.timers.length cT2, .int .i64 z.a.k, .int .i64 z.a.a, .int .i64 z.a.b, .int .i64 z.a.n, .string z.a.data, .int .i64 z.e, .int .i64 z.now, .int .i64 z.l.id, .int .i64 z.l.fr, .int .i64 z.l.to, .int .i64 z.l.rd, .string z.l.data, .slice AF z.ts.length cF, .int .i64 k] 56 (0, 0))) := by rw [hW9]; exact set6_far HGS.out n2
    have HGR9 : Hid (W9.heap[gr]? = some (.cells #[.int .i64 0, .int .i64 0, .int .i64 0, .slice none 0 0, .slice none 0 0, .slice none 0 0, .slice none 0 0, .int .i64 0] 62 (0, 0))) := by rw [hW9]; exact set6_far HGRX.out hgb
    have HO9 : Hid (NetO W9 B (.agg #[.int .i64 y.nodes, .int .i64 y.now, .int .i64 y.next, .slice AW2 y.way.length cW2, .slice AC2 y.cuts.length cC2, .slice AT2 y.timers.length cT2]) y) := by rw [hW9]; exact set6_net HOX.out HGX.out (by decide) (by decide) (by decide)
    have HU9 : Hid (Own W9 B 52 (.slice Au rs.length cu) rs) := by rw [hW9]; exact set6_own HUX.out (HUX.out.ne HGX.out (by decide))
    have HS9 : Hid (SnsO W9 B rs (playS x0 (xs.take i))) := by rw [hW9]; exact set6_sns HSNX.out HGX.out (by decide)
    have HT9 : Hid (Own W9 B 86 (.slice AF z.ts.length cF) z.ts) := by rw [hW9]; exact set6_own (HTX.out.weaken hBw) (HTX.out.ne HGX.out (by decide))
    have HB9 : Hid (Below w0.heap.size w0 W9) := by rw [hW9]; exact set6_below HBB.out hbo
    rw [← hW9]
    clear hW9 k0 k1 k2 k3 k4 k5 k6 k7 hfz f0 f1 f2 f3 f4 f5 hlg d0 d1 d2 d3 d4 d5 d6 d7 d8 d9 d10 d11 d12 d13 d14 d15 d16 d17 d18 d19 hlgs HGX HGRX HUX HSNX HBB HGS HOX HTX HG HGR HU HS HO HDO
    obtain ⟨⟨k0, k1, k2, k3, k4, k5, k6, k7⟩, -⟩ := blc8 HG9.out
    have hlg := bl_lt HG9.out
    obtain ⟨⟨d0, d1, d2, d3, d4, d5, d6, d7, d8, d9, d10, d11, d12, d13, d14, d15, d16, d17, d18, d19⟩, -⟩ := blc20 HGS9.out
    have hlgs := bl_lt HGS9.out
    have hB9 : B ≤ W9.heap.size := by have := HB9.out.size; omega
    go_wp2_with (at_builtin; refine hid_stop ?_)
    refine wpList_app (W9.alloc (.cells #[.int .i64 z.a.k, .int .i64 z.a.a, .int .i64 z.a.b, .int .i64 z.a.n, .string z.a.data, .int .i64 z.e, .int .i64 z.now, .int .i64 z.l.id, .int .i64 z.l.fr, .int .i64 z.l.to, .int .i64 z.l.rd, .string z.l.data, .slice AF z.ts.length cF] 52)) B rfl (.tmp 37) (.tmp 40) 47 52 _ 136 rfl Tryz.underlying47 infoS rfl (by decide) (by decide) (.slice Au rs.length cu) rs [(⟨z.a, z.e, z.now, z.l, AF, z.ts.length, cF⟩ : SnR)] (some ⟨W9.heap.size, 0, none⟩) 1 rfl rfl (HU9.out.alloc _) (Rd.new W9 52 (⟨z.a, z.e, z.now, z.l, AF, z.ts.length, cF⟩ : SnR) #[.int .i64 z.a.k, .int .i64 z.a.a, .int .i64 z.a.b, .int .i64 z.a.n, .string z.a.data, .int .i64 z.e, .int .i64 z.now, .int .i64 z.l.id, .int .i64 z.l.fr, .int .i64 z.l.to, .int .i64 z.l.rd, .string z.l.data, .slice AF z.ts.length cF] rfl) (by simp; omega) (by have h1 := HS9.out.1; rw [playS_length, List.length_take] at h1; simp; omega) ?_
    intro v1 w6 ho hg hat
    obtain ⟨A1, c1, hv1, -, -⟩ := ho.slice
    obtain ⟨m1, hm1⟩ : ∃ m1, m1 = (rs ++ [(⟨z.a, z.e, z.now, z.l, AF, z.ts.length, cF⟩ : SnR)]).length := ⟨_, rfl⟩
    rw [← hm1] at hv1
    subst hv1
    clear hm1
    have hgq : W9.grownBy w6 (Value.slice Au rs.length cu).ownBlock := grown_of_alloc hg
    have htk : xs.take (i + 1) = xs.take i ++ [d] := by rw [List.take_add_one, hd.out]; rfl
    have hF1 : Hid (SnsO w6 B (rs ++ [(⟨z.a, z.e, z.now, z.l, AF, z.ts.length, cF⟩ : SnR)]) (playS x0 (xs.take (i + 1)))) := by
      have h1 : SnsO W9 B (rs ++ [(⟨z.a, z.e, z.now, z.l, AF, z.ts.length, cF⟩ : SnR)]) (playS x0 (xs.take (i + 1))) := by
        rw [htk, playS_snoc, ← HXE.out, ← HZ.out]
        exact HS9.out.snoc ⟨rfl, rfl, rfl, rfl, rfl, HT9.out⟩
      exact h1.kept HU9.out (by decide) hgq
    have hF2 := Lib.hid (HO9.out.kept HU9.out hgq (by decide) (by decide) (by decide))
    have hF3 := Lib.hid (bl_grown HG9.out hgq (fun h => HU9.out.ne HG9.out (by decide) h.symm))
    have hF4 := Lib.hid (bl_grown HGR9.out hgq (fun h => HU9.out.ne HGR9.out (by decide) h.symm))
    have hF5 : Hid (Below w0.heap.size w0 w6) := HB9.out.grown hgq HB9.out.size (fun k hk => by have := (HU9.out.lt k hk).1; omega)
    have hF6 := Lib.hid ho
    have hF7 : Hid (y = playX x0 (xs.take (i + 1))) := by show y = _; rw [htk, playX_snoc, ← HXE.out, ← HY.out]
    have hF8 : Hid (Ok y) := by rw [HY.out, doXR_ok HOK.out]; exact do_keeps HOK.out _
    clear k0 k1 k2 k3 k4 k5 k6 k7 hlg d0 d1 d2 d3 d4 d5 d6 d7 d8 d9 d10 d11 d12 d13 d14 d15 d16 d17 d18 d19 hlgs hgq hg ho hat HU9 HG9 HGR9 HO9 HS9 HT9 HB9 HGS9
    have q0 := bl_frozen hF3.out 6
    have q1 := (bl_cell hF3.out 6).trans rfl
    have hlg := bl_lt hF3.out
    go_wp2
    refine ⟨⟨_, st_of 44 (by rfl), i + 1, AW2, cW2, AC2, cC2, AT2, cT2, y, .slice A1 m1 c1, _, by omega, rfl, rfl, rfl, by show _ = Value.int .i64 _; go_num, hF8, hF7, by show _ = _; simpa using bl_set hF3.out 6 (.slice A1 m1 c1), hF2.out.ne (p := ⟨bo, 6, none⟩) hF3.out (by decide) (by decide) (by decide) _, hF6.out.setCell (p := ⟨bo, 6, none⟩) (hF6.out.ne hF3.out (by decide)) _, hF1.out.far (p := ⟨bo, 6, none⟩) hF3.out (by decide) _, bl_far hF4.out hgb _, hF5.out.setCell hbo _⟩, ?_⟩
    show xs.length - (intOf (.int .i64 ((i : Int) + 1))).toNat < xs.length - i
    simp [intOf]; omega
end Go.Proofs.YthlbmcfliejdiaaGreat
end

section
set_option linter.unusedVariables false
set_option linter.unusedSimpArgs false
namespace Go.Proofs.YthlbmcfliejdiaaGreat
open Go.RowKit

section
variable {w w0 : World} {g B : Nat} {t : TypeId} {a0 a1 a2 a3 a4 a5 a6 a7 : Value}
def set8 (w : World) (g : Nat) (a0 a1 a2 a3 a4 a5 a6 a7 : Value) : World := ((set6 w g a0 a1 a2 a3 a4 a5).setCell ⟨g, 6, none⟩ a6).setCell ⟨g, 7, none⟩ a7
theorem set8_all {fr : Nat × Nat} {c0 c1 c2 c3 c4 c5 c6 c7 : Value} (h : w.heap[g]? = some (.cells #[c0, c1, c2, c3, c4, c5, c6, c7] t fr)) : (set8 w g a0 a1 a2 a3 a4 a5 a6 a7).heap[g]? = some (.cells #[a0, a1, a2, a3, a4, a5, a6, a7] t fr) := by
  unfold set8
  simpa using bl_set (bl_set (set6_all h) 6 a6) 7 a7
theorem set8_below (h : Below B w0 w) (hb : B ≤ g) : Below B w0 (set8 w g a0 a1 a2 a3 a4 a5 a6 a7) := ((set6_below h hb).setCell hb _).setCell hb _
theorem set8_own {α : Type} [Enc α] {e : TypeId} {v : Value} {xs : List α} (h : Own w B e v xs) (hne : v.ownBlock ≠ some g) : Own (set8 w g a0 a1 a2 a3 a4 a5 a6 a7) B e v xs :=
  ((set6_own h hne).setCell (p := ⟨g, 6, none⟩) hne _).setCell (p := ⟨g, 7, none⟩) hne _
theorem set8_net {x : Nt} {v : Value} {cs : Array Value} {fr : Nat × Nat} (h : NetO w B v x) (hp : w.heap[g]? = some (.cells cs t fr)) (h1 : 33 ≠ t) (h2 : 96 ≠ t) (h3 : 86 ≠ t) : NetO (set8 w g a0 a1 a2 a3 a4 a5 a6 a7) B v x := by
  obtain ⟨A1, c1, A2, c2, A3, c3, e', oW, oC, oT⟩ := h
  exact ⟨A1, c1, A2, c2, A3, c3, e', set8_own oW (oW.ne hp h1), set8_own oC (oC.ne hp h2), set8_own oT (oT.ne hp h3)⟩
theorem set8_sns {rs : List SnR} {xs : List Sn} {cs : Array Value} {fr : Nat × Nat} (h : SnsO w B rs xs) (hp : w.heap[g]? = some (.cells cs t fr)) (h3 : 86 ≠ t) : SnsO (set8 w g a0 a1 a2 a3 a4 a5 a6 a7) B rs xs := by
  refine ⟨h.1, fun i r s hr hs => ?_⟩
  obtain ⟨q1, q2, q3, q4, q5, q6⟩ := h.2 i r s hr hs
  exact ⟨q1, q2, q3, q4, q5, set8_own q6 (q6.ne hp h3)⟩
end
set_option maxHeartbeats 1000000 in
set_option maxRecDepth 100000 in
theorem RPlay_bad (n : Int) (v : Value) (w : World) (h : n < 1 ∨ 16 < n) : Calls Tryz.prog 23 #[.int .i64 n, v] w fun e w' => e = .returned (.agg #[.int .i64 0, .int .i64 0, .int .i64 0, .slice none 0 0, .slice none 0 0, .slice none 0 0, .slice none 0 0, .int .i64 1]) ∧ Below w.heap.size w w' := by
  have HN := Lib.hid (fun W => RNew_bad n W h)
  clear h
  go_enter Tryz.func23, Tryz.ntmps23
  go_wp2_with fail
  refine calls_below (HN.out _) ?_
  intro w1 hb1
  have hm := bl_below (bl_new w (.cells #[.int .i64 0, .int .i64 0, .int .i64 0, .slice none 0 0, .slice none 0 0, .slice none 0 0, .slice none 0 0, .int .i64 0] 62)) hb1
  have hlm := bl_lt hm
  obtain ⟨⟨d0, d1, d2, d3, d4, d5, d6, d7⟩, fz⟩ := blc8 hm
  have f0 := fz 0
  have f1 := fz 1
  have f2 := fz 2
  have f3 := fz 3
  have f4 := fz 4
  have f5 := fz 5
  have f6 := fz 6
  have f7 := fz 7
  have hn1 : ¬ w.heap.size = w1.heap.size := by omega
  have hn2 : ¬ w1.heap.size = w.heap.size := by omega
  have HM := Lib.hid hm
  clear hm fz
  go_wp2
  refine ret_c Tryz.results23 w.heap.size 62 #[.int .i64 0, .int .i64 0, .int .i64 0, .slice none 0 0, .slice none 0 0, .slice none 0 0, .slice none 0 0, .int .i64 1] _ rfl ?_ Tryz.underlying62 rfl sizePlayed rfl ⟨rfl, ?_⟩
  · exact bl_alloc (set8_all HM.out) _
  · exact below_alloc (set8_below (below_trans (below_alloc (Below.refl _ _) _) hb1) (Nat.le_refl _)) _
set_option maxHeartbeats 4000000 in
set_option maxRecDepth 100000 in
theorem RPlay_good (n : Int) (xs : List Ac) (A : Option Addr) (c : Nat) (w : World) (h0 : 1 ≤ n) (h16 : n ≤ 16) (hR : Rd w A xs) (hl : xs.length ≤ 1000000) :
    Calls Tryz.prog 23 #[.int .i64 n, .slice A xs.length c] w fun e w' => ∃ AW cW AC cC AT cT u rs, e = .returned (.agg #[.int .i64 (playX (newX n) xs).nodes, .int .i64 (playX (newX n) xs).now, .int .i64 (playX (newX n) xs).next, .slice AW (playX (newX n) xs).way.length cW, .slice AC (playX (newX n) xs).cuts.length cC, .slice AT (playX (newX n) xs).timers.length cT, u, .int .i64 0]) ∧ NetO w' w.heap.size (.agg #[.int .i64 (playX (newX n) xs).nodes, .int .i64 (playX (newX n) xs).now, .int .i64 (playX (newX n) xs).next, .slice AW (playX (newX n) xs).way.length cW, .slice AC (playX (newX n) xs).cuts.length cC, .slice AT (playX (newX n) xs).timers.length cT]) (playX (newX n) xs) ∧ Own w' w.heap.size 52 u rs ∧ SnsO w' w.heap.size rs (playS (newX n) xs) ∧ Below w.heap.size w w' := by
  have HN := Lib.hid (fun W => RNew_good n W h0 h16)
  have HX0 := Lib.hid (newX_ok h0 h16)
  have HR := Lib.hid hR
  obtain ⟨x0, HXE⟩ : ∃ x0, Hid (x0 = newX n) := ⟨_, rfl⟩
  rw [← HXE.out]
  rw [← HXE.out] at HX0
  obtain ⟨Y, HY⟩ : ∃ Y, Hid (Y = playX x0 xs) := ⟨_, rfl⟩
  obtain ⟨Z, HZ⟩ : ∃ Z, Hid (Z = playS x0 xs) := ⟨_, rfl⟩
  rw [← HY.out, ← HZ.out]
  clear hR h0 h16
  go_enter Tryz.func23, Tryz.ntmps23
  go_wp2_with fail
  refine calls_below (HN.out _) ?_
  intro w1 hb1
  have HGR := Lib.hid (bl_below (bl_new w (.cells #[.int .i64 0, .int .i64 0, .int .i64 0, .slice none 0 0, .slice none 0 0, .slice none 0 0, .slice none 0 0, .int .i64 0] 62)) hb1)
  have HB1 := Lib.hid (below_trans (below_alloc (Below.refl _ _) (.cells #[.int .i64 0, .int .i64 0, .int .i64 0, .slice none 0 0, .slice none 0 0, .slice none 0 0, .slice none 0 0, .int .i64 0] 62)) hb1)
  have hsz : w.heap.size < w1.heap.size := bl_lt HGR.out
  clear hb1
  go_upto_region 5 with fail
  obtain ⟨w2, hw2⟩ : ∃ w2, w2 = (w1.alloc (.cells #[.int .i64 n, .int .i64 0, .int .i64 0, .slice none 0 0, .slice none 0 0, .slice none 0 0, .int .i64 0, .int .i64 0, .int .i64 0, .int .i64 0, .int .i64 0, .string ⟨#[]⟩, .slice none 0 0, .int .i64 0] 35)).alloc (.cells #[.int .i64 n, .int .i64 0, .int .i64 0, .slice none 0 0, .slice none 0 0, .slice none 0 0, .slice none 0 0, .int .i64 0] 62) := ⟨_, rfl⟩
  have HB2 : Hid (Below w.heap.size w w2) := by rw [hw2]; exact below_alloc (below_alloc HB1.out _) _
  have HG2 : Hid (w2.heap[w1.heap.size + 1]? = some (.cells #[.int .i64 n, .int .i64 0, .int .i64 0, .slice none 0 0, .slice none 0 0, .slice none 0 0, .slice none 0 0, .int .i64 0] 62 (0, 0))) := by rw [hw2]; exact bl_new2 _ _ _
  have HGR2 : Hid (w2.heap[w.heap.size]? = some (.cells #[.int .i64 0, .int .i64 0, .int .i64 0, .slice none 0 0, .slice none 0 0, .slice none 0 0, .slice none 0 0, .int .i64 0] 62 (0, 0))) := by rw [hw2]; exact bl_alloc (bl_alloc HGR.out _) _
  rw [← hw2]
  clear hw2
  go_wp2
  refine wp_st 44 (by rfl) fun f0 hf0 => ?_
  refine wp_loop (rpI xs (.slice A xs.length c) x0 (w1.heap.size + 1) w.heap.size w.heap.size w) (rpMu xs.length) ⟨f0, rfl, 0, none, 0, none, 0, none, 0, x0, _, [], Nat.zero_le _, (hf0 1).trans rfl, (hf0 4).trans rfl, (hf0 6).trans rfl, (hf0 7).trans rfl, HX0, by show x0 = playX x0 (xs.take 0); rfl, by show _ = _; rw [HXE.out]; exact HG2.out, by show NetO _ _ _ _; rw [HXE.out]; exact ⟨none, 0, none, 0, none, 0, rfl, Own.nil _ _ _, Own.nil _ _ _, Own.nil _ _ _⟩, Own.nil _ _ _, SnsO.nil _ _, HGR2, HB2⟩ ?_
  clear hf0 f0 HG2 HGR2 HB2
  rintro a wr ⟨f, rfl, i, AW, cW, AC, cC, AT, cT, x, u, rs, hi, h1, h4, h6, h7, HOK, HXX, HG, HO, HU, HS, HGR3, HB⟩
  obtain ⟨Au, cu, rfl, -, -⟩ := HU.out.slice
  by_cases hlk : i < xs.length
  · exact rp_round xs A c x0 (w1.heap.size + 1) w.heap.size w.heap.size w wr f _ i AW AC AT cW cC cT x Au cu rs hl hlk (Nat.le_refl _) (by omega) (by omega) HB.out.size rfl HR h1 h4 h6 h7 HOK HXX HG HO HU HS HGR3 HB (fun d _ _ _ _ h => by cases d <;> exact h)
  obtain rfl : i = xs.length := by omega
  rw [List.take_length] at HXX HS
  rw [← HZ.out] at HS
  have HXY : Hid (x = Y) := HXX.out.trans HY.out.symm
  rw [show st 44 f = ⟨#[f 0, f 1, f 2, f 3, f 4, f 5, f 6, f 7, f 8, f 9, f 10, f 11, f 12, f 13, f 14, f 15, f 16, f 17, f 18, f 19, f 20, f 21, f 22, f 23, f 24, f 25, f 26, f 27, f 28, f 29, f 30, f 31, f 32, f 33, f 34, f 35, f 36, f 37, f 38, f 39, f 40, f 41, f 42, f 43], []⟩ by rfl, h1, h4, h6, h7]
  clear h1 h4 h6 h7 HXX
  obtain ⟨⟨k0, k1, k2, k3, k4, k5, k6, k7⟩, -⟩ := blc8 HG.out
  have hlg := bl_lt HG.out
  obtain ⟨⟨d0, d1, d2, d3, d4, d5, d6, d7⟩, fz⟩ := blc8 HGR3.out
  have hlr := bl_lt HGR3.out
  have f0 := fz 0
  have f1 := fz 1
  have f2 := fz 2
  have f3 := fz 3
  have f4 := fz 4
  have f5 := fz 5
  have f6 := fz 6
  have f7 := fz 7
  clear fz
  go_wp2
  refine ret_c Tryz.results23 w.heap.size 62 #[.int .i64 x.nodes, .int .i64 x.now, .int .i64 x.next, .slice AW x.way.length cW, .slice AC x.cuts.length cC, .slice AT x.timers.length cT, .slice Au rs.length cu, .int .i64 0] _ rfl (set8_all HGR3.out) Tryz.underlying62 rfl sizePlayed rfl ?_
  rw [← HXY.out]
  exact ⟨AW, cW, AC, cC, AT, cT, _, rs, rfl, set8_net HO.out HGR3.out (by decide) (by decide) (by decide), set8_own HU.out (HU.out.ne HGR3.out (by decide)), set8_sns HS.out HGR3.out (by decide), set8_below HB.out (Nat.le_refl _)⟩
end Go.Proofs.YthlbmcfliejdiaaGreat
end
