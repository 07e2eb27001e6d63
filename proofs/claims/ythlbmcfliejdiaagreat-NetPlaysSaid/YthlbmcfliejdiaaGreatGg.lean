/- The contracts of the program's Send, by the plain model. The contracts of the program's Deliver, Tick and Ready, by the plain model. The closures handed to changed, and the public functions over it, by the plain model. (Printed by wip/gen_cl.py.). The contracts of actOf's closures, of actOf, of does and of shows. (Printed by wip/gen_act.py.). -/
import Derived.Test.YthlbmcfliejdiaaGreatGf
import Derived.RegionTactic
import Derived.ChangeAlike
import Derived.Test.YthlbmcfliejdiaaGreatGd
import Derived.Test.YthlbmcfliejdiaaGreatGe
import Derived.Laws.EntriesVeiled
section
set_option linter.unusedVariables false
set_option linter.unusedSimpArgs false
namespace Go.Proofs.YthlbmcfliejdiaaGreat
open Go.RowKit

theorem send_id (x : Nt) (fr to : Int) (data : ByteArray) : (sendM x fr to data).l.id = (sendM x fr to data).id := by
  unfold sendM
  repeat' split
  all_goals rfl
theorem pre2 (w : World) (x : Nt) (AW AC AT : Option Addr) (cW cC cT : Nat) (wA : World) (hwA : wA = ((w.alloc (.cells #[.int .i64 x.nodes, .int .i64 x.now, .int .i64 x.next, .slice AW x.way.length cW, .slice AC x.cuts.length cC, .slice AT x.timers.length cT] 26)).alloc (.cells #[.int .i64 0, .int .i64 0, .int .i64 0, .slice none 0 0, .slice none 0 0, .slice none 0 0] 26))) :
    Below w.heap.size w wA ∧ wA.heap.size = w.heap.size + 2 ∧ wA.heap[w.heap.size + 1]? = some (.cells #[.int .i64 0, .int .i64 0, .int .i64 0, .slice none 0 0, .slice none 0 0, .slice none 0 0] 26 (0, 0)) := by
  subst hwA
  refine ⟨below_alloc (below_alloc (Below.refl _ _) _) _, by simp, ?_⟩
  have h := bl_new (w.alloc (.cells #[.int .i64 x.nodes, .int .i64 x.now, .int .i64 x.next, .slice AW x.way.length cW, .slice AC x.cuts.length cC, .slice AT x.timers.length cT] 26)) (.cells #[.int .i64 0, .int .i64 0, .int .i64 0, .slice none 0 0, .slice none 0 0, .slice none 0 0] 26)
  simp only [World.size_alloc] at h
  exact h

set_option maxHeartbeats 1000000 in
set_option maxRecDepth 100000 in
theorem Send_good (x : Nt) (fr to : Int) (data : ByteArray) (v : Value) (w : World) (hV : NetV w v x) (hx : Ok x) :
    Calls Tryz.prog 7 #[v, .int .i64 fr, .int .i64 to, .string data] w fun e w' => ∃ v', e = .returned (.tuple #[v', .int .i64 (sendM x fr to data).id, .int .i64 (sendM x fr to data).e]) ∧ pubW w (sendM x fr to data) v' w' := by
  obtain ⟨AW, cW, AC, cC, AT, cT, rfl, hW, hC, hT⟩ := hV
  obtain ⟨wA, hwA⟩ : ∃ wA, wA = ((w.alloc (.cells #[.int .i64 x.nodes, .int .i64 x.now, .int .i64 x.next, .slice AW x.way.length cW, .slice AC x.cuts.length cC, .slice AT x.timers.length cT] 26)).alloc (.cells #[.int .i64 0, .int .i64 0, .int .i64 0, .slice none 0 0, .slice none 0 0, .slice none 0 0] 26)) := ⟨_, rfl⟩
  obtain ⟨hb0, hs0, hzA⟩ := pre2 w x AW AC AT cW cC cT wA hwA
  obtain ⟨r, hr⟩ : ∃ r, r = sendM x fr to data := ⟨_, rfl⟩
  have hid : r.l.id = r.id := by rw [hr]; exact send_id _ _ _ _
  have hbad : r.e ≠ 0 → r.x = zNt := fun h => by rw [hr] at h ⊢; rw [send_bad h]; rfl
  have hm := fun B g w hS hB => send_m B g x fr to data w hS hx hB
  rw [← hr] at hm ⊢
  have HI := Lib.hid hid
  have HBAD := Lib.hid hbad
  have HM := Lib.hid hm
  have HB0 := Lib.hid hb0
  have HS0 := Lib.hid hs0
  have HZA := Lib.hid hzA
  have HX := Lib.hid hx
  have HWA := Lib.hid hwA
  have HW := Lib.hid (hW.below hb0)
  have HC := Lib.hid (hC.below hb0)
  have HT := Lib.hid (hT.below hb0)
  have hlw := hx.way
  have hlc := hx.cuts256
  have hlt := hx.tms
  clear hb0 hs0 hzA hx hwA hW hC hT hr hid hbad hm
  go_enter Tryz.func7, Tryz.ntmps7
  go_wp2_with (first
    | (go_at_call 36; rw [← HWA.out]; refine (changing_ok x AW AC AT cW cC cT wA (by omega) (by omega) (by omega) HW.out HC.out HT.out ((ok_iff x).2 HX.out)).mono ?_; rintro e w1 ⟨g, rfl, hS1, hb1⟩)
    | (go_at_call 37; refine (HM.out wA.heap.size g _ hS1 hb1.size).mono ?_; rintro e w2 ⟨rfl, hQ⟩; have HQ := Lib.hid hQ; clear hQ)
    | (go_at_call 38; refine (done_m wA.heap.size g r w1 _ HBAD.out (HQ.out.below (by exact below_alloc (Below.refl _ _) _) hb1.size hS1.lt)).mono ?_; rintro e w3 ⟨v3, rfl, hV3, hb3⟩; obtain ⟨AW3, cW3, AC3, cC3, AT3, cT3, rfl, rW3, rC3, rT3⟩ := hV3; have HV3 : Hid (NetO w3 wA.heap.size _ r.x) := ⟨AW3, cW3, AC3, cC3, AT3, cT3, rfl, rW3, rC3, rT3⟩; clear rW3 rC3 rT3))
  have hB3 : Below wA.heap.size wA w3 := (hb1.trans (HQ.out.toB hb1.size)).trans ((below_trans (below_alloc (Below.refl _ _) _) hb3).mono (Nat.le_trans hb1.size HQ.out.size))
  have hz := bl_below HZA.out hB3
  obtain ⟨⟨a0, a1, a2, a3, a4, a5⟩, b0, b1, b2, b3, b4, b5⟩ := blc6 hz
  have hl := bl_below (bl_new w2 (.cells #[.int .i64 r.l.id, .int .i64 r.l.fr, .int .i64 r.l.to, .int .i64 r.l.rd, .string r.l.data] 33)) hb3
  obtain ⟨⟨d0, -, -, -, -⟩, -⟩ := blc5 hl
  rw [HI.out] at d0
  have hlt2 := bl_lt hl
  have hlt1 := bl_lt hz
  have hs0 := HS0.out
  have q1 := hb1.size
  have q2 := HQ.out.size
  have n1 : ¬ w2.heap.size = w.heap.size + 1 := by omega
  have n2 : ¬ w.heap.size + 1 = w2.heap.size := by omega
  clear hl
  have HB := HB0
  clear HB0 HS0 HZA HX HWA HW HC HT HM HBAD hS1
  go_region
  go_wp2
  exact ret_ctt Tryz.results7 (w.heap.size + 1) 26 #[.int .i64 r.x.nodes, .int .i64 r.x.now, .int .i64 r.x.next, .slice AW3 r.x.way.length cW3, .slice AC3 r.x.cuts.length cC3, .slice AT3 r.x.timers.length cT3] _ rfl (bl_drew (bl_alloc (bl_all6 hz _ _ _ _ _ _) _)) Tryz.underlying26 rfl sizeNet rfl
    ⟨_, rfl, NetO.weaken (((HV3.out.far6 (by omega) _ _ _ _ _ _).alloc _).drew) (by omega), (below_alloc (below_set6 (HB.out.trans (hB3.mono (by omega))) (by omega) _ _ _ _ _ _) _).drew⟩
end Go.Proofs.YthlbmcfliejdiaaGreat
end

section
set_option linter.unusedVariables false
set_option linter.unusedSimpArgs false
namespace Go.Proofs.YthlbmcfliejdiaaGreat
open Go.RowKit

theorem pre3 (w : World) (x : Nt) (AW AC AT : Option Addr) (cW cC cT : Nat) (wA : World) (hwA : wA = (((w.alloc (.cells #[.int .i64 x.nodes, .int .i64 x.now, .int .i64 x.next, .slice AW x.way.length cW, .slice AC x.cuts.length cC, .slice AT x.timers.length cT] 26)).alloc (.cells #[.int .i64 0, .int .i64 0, .int .i64 0, .slice none 0 0, .slice none 0 0, .slice none 0 0] 26)).alloc (.cells #[.int .i64 0, .int .i64 0, .int .i64 0, .int .i64 0, .string ⟨#[]⟩] 33))) :
    Below w.heap.size w wA ∧ wA.heap.size = w.heap.size + 3 ∧ wA.heap[w.heap.size + 1]? = some (.cells #[.int .i64 0, .int .i64 0, .int .i64 0, .slice none 0 0, .slice none 0 0, .slice none 0 0] 26 (0, 0)) ∧
      wA.heap[w.heap.size + 1 + 1]? = some (.cells #[.int .i64 0, .int .i64 0, .int .i64 0, .int .i64 0, .string ⟨#[]⟩] 33 (0, 0)) := by
  obtain ⟨hb, hs, hz⟩ := pre2 w x AW AC AT cW cC cT _ rfl
  subst hwA
  refine ⟨below_alloc hb _, by simp, bl_alloc hz _, ?_⟩
  have h := bl_new ((w.alloc (.cells #[.int .i64 x.nodes, .int .i64 x.now, .int .i64 x.next, .slice AW x.way.length cW, .slice AC x.cuts.length cC, .slice AT x.timers.length cT] 26)).alloc (.cells #[.int .i64 0, .int .i64 0, .int .i64 0, .slice none 0 0, .slice none 0 0, .slice none 0 0] 26)) (.cells #[.int .i64 0, .int .i64 0, .int .i64 0, .int .i64 0, .string ⟨#[]⟩] 33)
  simp only [World.size_alloc] at h
  exact h
theorem below_set5' {w w1 : World} {B b : Nat} (h : Below B w w1) (hb : B ≤ b) (a0 a1 a2 a3 a4 : Value) : Below B w (((((w1.setCell ⟨b, 0, none⟩ a0).setCell ⟨b, 1, none⟩ a1).setCell ⟨b, 2, none⟩ a2).setCell ⟨b, 3, none⟩ a3).setCell ⟨b, 4, none⟩ a4) :=
  ((((h.setCell (p := ⟨b, 0, none⟩) hb a0).setCell (p := ⟨b, 1, none⟩) hb a1).setCell (p := ⟨b, 2, none⟩) hb a2).setCell (p := ⟨b, 3, none⟩) hb a3).setCell (p := ⟨b, 4, none⟩) hb a4
theorem bl_far6 {w : World} {k b : Nat} {o : Obj} (h : w.heap[k]? = some o) (hne : k ≠ b) (a0 a1 a2 a3 a4 a5 : Value) :
    ((((((w.setCell ⟨b, 0, none⟩ a0).setCell ⟨b, 1, none⟩ a1).setCell ⟨b, 2, none⟩ a2).setCell ⟨b, 3, none⟩ a3).setCell ⟨b, 4, none⟩ a4).setCell ⟨b, 5, none⟩ a5).heap[k]? = some o :=
  bl_far (bl_far (bl_far (bl_far (bl_far (bl_far h hne _) hne _) hne _) hne _) hne _) hne _
theorem bl_far5 {w : World} {k b : Nat} {o : Obj} (h : w.heap[k]? = some o) (hne : k ≠ b) (a0 a1 a2 a3 a4 : Value) :
    (((((w.setCell ⟨b, 0, none⟩ a0).setCell ⟨b, 1, none⟩ a1).setCell ⟨b, 2, none⟩ a2).setCell ⟨b, 3, none⟩ a3).setCell ⟨b, 4, none⟩ a4).heap[k]? = some o :=
  bl_far (bl_far (bl_far (bl_far (bl_far h hne _) hne _) hne _) hne _) hne _
theorem NetO.far5 {w : World} {B b : Nat} {v : Value} {x : Nt} (h : NetO w B v x) (hp : b < B) (a0 a1 a2 a3 a4 : Value) :
    NetO (((((w.setCell ⟨b, 0, none⟩ a0).setCell ⟨b, 1, none⟩ a1).setCell ⟨b, 2, none⟩ a2).setCell ⟨b, 3, none⟩ a3).setCell ⟨b, 4, none⟩ a4) B v x :=
  ((((h.far (p := ⟨b, 0, none⟩) hp _).far (p := ⟨b, 1, none⟩) hp _).far (p := ⟨b, 2, none⟩) hp _).far (p := ⟨b, 3, none⟩) hp _).far (p := ⟨b, 4, none⟩) hp _

set_option maxHeartbeats 1000000 in
set_option maxRecDepth 100000 in
theorem Deliver_form (x : Nt) (i : Int) (v : Value) (w : World) (hlw : x.way.length ≤ 10000000) (hlc : x.cuts.length ≤ 10000000) (hlt : x.timers.length ≤ 10000000) (hV : NetV w v x) (hx : checkB x = false) :
    Calls Tryz.prog 10 #[v, .int .i64 i] w fun e w' => e = .returned (.tuple #[zNetV, .agg #[.int .i64 zLt.id, .int .i64 zLt.fr, .int .i64 zLt.to, .int .i64 zLt.rd, .string zLt.data], .int .i64 2]) ∧ Below w.heap.size w w' := by
  obtain ⟨AW, cW, AC, cC, AT, cT, rfl, hW, hC, hT⟩ := hV
  obtain ⟨wA, hwA⟩ : ∃ wA, wA = (((w.alloc (.cells #[.int .i64 x.nodes, .int .i64 x.now, .int .i64 x.next, .slice AW x.way.length cW, .slice AC x.cuts.length cC, .slice AT x.timers.length cT] 26)).alloc (.cells #[.int .i64 0, .int .i64 0, .int .i64 0, .slice none 0 0, .slice none 0 0, .slice none 0 0] 26)).alloc (.cells #[.int .i64 0, .int .i64 0, .int .i64 0, .int .i64 0, .string ⟨#[]⟩] 33)) := ⟨_, rfl⟩
  obtain ⟨hb0, hs0, hzA, hyA⟩ := pre3 w x AW AC AT cW cC cT wA hwA
  have HB0 := Lib.hid hb0
  have HZA := Lib.hid hzA
  have HYA := Lib.hid hyA
  have HX := Lib.hid hx
  have HWA := Lib.hid hwA
  have HW := Lib.hid (hW.below hb0)
  have HC := Lib.hid (hC.below hb0)
  have HT := Lib.hid (hT.below hb0)
  clear hb0 hs0 hzA hyA hx hwA hW hC hT
  go_enter Tryz.func10, Tryz.ntmps10
  go_wp2_with (go_at_call 36; rw [← HWA.out]; refine (changing_bad x AW AC AT cW cC cT wA (by omega) (by omega) (by omega) HW.out HC.out HT.out HX.out).mono ?_; rintro e w1 ⟨rfl, hb1⟩; have hz := bl_below HZA.out hb1; have hy := bl_below HYA.out hb1; obtain ⟨⟨a0, a1, a2, a3, a4, a5⟩, b0, b1, b2, b3, b4, b5⟩ := blc6 hz; obtain ⟨⟨d0, d1, d2, d3, d4⟩, f0, f1, f2, f3, f4⟩ := blc5 hy; have hl1 := bl_lt hz; have hl2 := bl_lt hy)
  exact ret_cct Tryz.results10 (w.heap.size + 1) (w.heap.size + 1 + 1) 26 33 #[.int .i64 0, .int .i64 0, .int .i64 0, .slice none 0 0, .slice none 0 0, .slice none 0 0] #[.int .i64 0, .int .i64 0, .int .i64 0, .int .i64 0, .string ⟨#[]⟩] _ _ rfl (bl_far5 (bl_all6 hz _ _ _ _ _ _) (by omega) _ _ _ _ _) Tryz.underlying26 rfl sizeNet rfl (bl_all5 (bl_far6 hy (by omega) _ _ _ _ _ _) _ _ _ _ _) Tryz.underlying33 rfl sizeLt rfl
    ⟨rfl, below_set5' (below_set6 (below_trans HB0.out hb1) (by omega) _ _ _ _ _ _) (by omega) _ _ _ _ _⟩

set_option maxHeartbeats 1000000 in
set_option maxRecDepth 100000 in
theorem Deliver_good (x : Nt) (i : Int) (v : Value) (w : World) (hV : NetV w v x) (hx : Ok x) :
    Calls Tryz.prog 10 #[v, .int .i64 i] w fun e w' => ∃ v', e = .returned (.tuple #[v', .agg #[.int .i64 (deliverM x i).l.id, .int .i64 (deliverM x i).l.fr, .int .i64 (deliverM x i).l.to, .int .i64 (deliverM x i).l.rd, .string (deliverM x i).l.data], .int .i64 (deliverM x i).e]) ∧ pubW w (deliverM x i) v' w' := by
  obtain ⟨AW, cW, AC, cC, AT, cT, rfl, hW, hC, hT⟩ := hV
  obtain ⟨wA, hwA⟩ : ∃ wA, wA = (((w.alloc (.cells #[.int .i64 x.nodes, .int .i64 x.now, .int .i64 x.next, .slice AW x.way.length cW, .slice AC x.cuts.length cC, .slice AT x.timers.length cT] 26)).alloc (.cells #[.int .i64 0, .int .i64 0, .int .i64 0, .slice none 0 0, .slice none 0 0, .slice none 0 0] 26)).alloc (.cells #[.int .i64 0, .int .i64 0, .int .i64 0, .int .i64 0, .string ⟨#[]⟩] 33)) := ⟨_, rfl⟩
  obtain ⟨hb0, hs0, hzA, hyA⟩ := pre3 w x AW AC AT cW cC cT wA hwA
  obtain ⟨r, hr⟩ : ∃ r, r = deliverM x i := ⟨_, rfl⟩
  have hbad : r.e ≠ 0 → r.x = zNt := fun h => by rw [hr] at h ⊢; rw [deliver_bad h]; rfl
  have hm := fun B g w hS hB => deliver_m B g x i w hS hx hB
  rw [← hr] at hm ⊢
  have HBAD := Lib.hid hbad
  have HM := Lib.hid hm
  have HB0 := Lib.hid hb0
  have HS0 := Lib.hid hs0
  have HZA := Lib.hid hzA
  have HYA := Lib.hid hyA
  have HX := Lib.hid hx
  have HWA := Lib.hid hwA
  have HW := Lib.hid (hW.below hb0)
  have HC := Lib.hid (hC.below hb0)
  have HT := Lib.hid (hT.below hb0)
  have hlw := hx.way
  have hlc := hx.cuts256
  have hlt := hx.tms
  clear hb0 hs0 hzA hyA hx hwA hW hC hT hr hbad hm
  go_enter Tryz.func10, Tryz.ntmps10
  go_wp2_with (first
    | (go_at_call 36; rw [← HWA.out]; refine (changing_ok x AW AC AT cW cC cT wA (by omega) (by omega) (by omega) HW.out HC.out HT.out ((ok_iff x).2 HX.out)).mono ?_; rintro e w1 ⟨g, rfl, hS1, hb1⟩)
    | (go_at_call 42; refine (HM.out wA.heap.size g _ hS1 hb1.size).mono ?_; rintro e w2 ⟨rfl, hQ⟩; have HQ := Lib.hid hQ; clear hQ)
    | (go_at_call 38; refine (done_m wA.heap.size g r w1 _ HBAD.out (HQ.out.below (by exact below_alloc (Below.refl _ _) _) hb1.size hS1.lt)).mono ?_; rintro e w3 ⟨v3, rfl, hV3, hb3⟩; obtain ⟨AW3, cW3, AC3, cC3, AT3, cT3, rfl, rW3, rC3, rT3⟩ := hV3; have HV3 : Hid (NetO w3 wA.heap.size _ r.x) := ⟨AW3, cW3, AC3, cC3, AT3, cT3, rfl, rW3, rC3, rT3⟩; clear rW3 rC3 rT3))
  have hB3 : Below wA.heap.size wA w3 := (hb1.trans (HQ.out.toB hb1.size)).trans ((below_trans (below_alloc (Below.refl _ _) _) hb3).mono (Nat.le_trans hb1.size HQ.out.size))
  have hz := bl_below HZA.out hB3
  have hy := bl_below HYA.out hB3
  obtain ⟨⟨a0, a1, a2, a3, a4, a5⟩, b0, b1, b2, b3, b4, b5⟩ := blc6 hz
  obtain ⟨⟨y0, y1, y2, y3, y4⟩, z0, z1, z2, z3, z4⟩ := blc5 hy
  have hl := bl_below (bl_new w2 (.cells #[.int .i64 r.l.id, .int .i64 r.l.fr, .int .i64 r.l.to, .int .i64 r.l.rd, .string r.l.data] 33)) hb3
  obtain ⟨⟨d0, d1, d2, d3, d4⟩, -⟩ := blc5 hl
  have hlt2 := bl_lt hl
  have hlt1 := bl_lt hz
  have hlt0 := bl_lt hy
  have hs0 := HS0.out
  have q1 := hb1.size
  have q2 := HQ.out.size
  have n1 : ¬ w2.heap.size = w.heap.size + 1 := by omega
  have n2 : ¬ w.heap.size + 1 = w2.heap.size := by omega
  have n3 : ¬ w2.heap.size = w.heap.size + 1 + 1 := by omega
  have n4 : ¬ w.heap.size + 1 + 1 = w2.heap.size := by omega
  clear hl
  have HB := HB0
  clear HB0 HS0 HZA HYA HX HWA HW HC HT HM HBAD hS1
  go_region
  go_wp2
  exact ret_cct Tryz.results10 (w.heap.size + 1) (w.heap.size + 1 + 1) 26 33 #[.int .i64 r.x.nodes, .int .i64 r.x.now, .int .i64 r.x.next, .slice AW3 r.x.way.length cW3, .slice AC3 r.x.cuts.length cC3, .slice AT3 r.x.timers.length cT3] #[.int .i64 r.l.id, .int .i64 r.l.fr, .int .i64 r.l.to, .int .i64 r.l.rd, .string r.l.data] _ _ rfl
    (bl_drew (bl_alloc (bl_far5 (bl_all6 hz _ _ _ _ _ _) (by omega) _ _ _ _ _) _)) Tryz.underlying26 rfl sizeNet rfl (bl_drew (bl_alloc (bl_all5 (bl_far6 hy (by omega) _ _ _ _ _ _) _ _ _ _ _) _)) Tryz.underlying33 rfl sizeLt rfl
    ⟨_, rfl, NetO.weaken ((((HV3.out.far6 (by omega) _ _ _ _ _ _).far5 (by omega) _ _ _ _ _).alloc _).drew) (by omega), (below_alloc (below_set5' (below_set6 (HB.out.trans (hB3.mono (by omega))) (by omega) _ _ _ _ _ _) (by omega) _ _ _ _ _) _).drew⟩

set_option maxHeartbeats 1000000 in
set_option maxRecDepth 100000 in
theorem Tick_good (x : Nt) (v : Value) (w : World) (hV : NetV w v x) (hx : Ok x) :
    Calls Tryz.prog 35 #[v] w fun e w' => ∃ v' u, e = .returned (.tuple #[v', u, .int .i64 (tickM x).e]) ∧ Own w' w.heap.size 86 u (tickM x).ts ∧ pubW w (tickM x) v' w' := by
  obtain ⟨AW, cW, AC, cC, AT, cT, rfl, hW, hC, hT⟩ := hV
  obtain ⟨wA, hwA⟩ : ∃ wA, wA = ((w.alloc (.cells #[.int .i64 x.nodes, .int .i64 x.now, .int .i64 x.next, .slice AW x.way.length cW, .slice AC x.cuts.length cC, .slice AT x.timers.length cT] 26)).alloc (.cells #[.int .i64 0, .int .i64 0, .int .i64 0, .slice none 0 0, .slice none 0 0, .slice none 0 0] 26)) := ⟨_, rfl⟩
  obtain ⟨hb0, hs0, hzA⟩ := pre2 w x AW AC AT cW cC cT wA hwA
  obtain ⟨r, hr⟩ : ∃ r, r = tickM x := ⟨_, rfl⟩
  have hbad : r.e ≠ 0 → r.x = zNt := fun h => by rw [hr] at h ⊢; rw [tick_bad h]; rfl
  have hm := fun B g w hS hB => tick_m B g x w hS hx hB
  rw [← hr] at hm ⊢
  have HBAD := Lib.hid hbad
  have HM := Lib.hid hm
  have HB0 := Lib.hid hb0
  have HS0 := Lib.hid hs0
  have HZA := Lib.hid hzA
  have HX := Lib.hid hx
  have HWA := Lib.hid hwA
  have HW := Lib.hid (hW.below hb0)
  have HC := Lib.hid (hC.below hb0)
  have HT := Lib.hid (hT.below hb0)
  have hlw := hx.way
  have hlc := hx.cuts256
  have hlt := hx.tms
  clear hb0 hs0 hzA hx hwA hW hC hT hr hbad hm
  go_enter Tryz.func35, Tryz.ntmps35
  go_wp2_with (first
    | (go_at_call 36; rw [← HWA.out]; refine (changing_ok x AW AC AT cW cC cT wA (by omega) (by omega) (by omega) HW.out HC.out HT.out ((ok_iff x).2 HX.out)).mono ?_; rintro e w1 ⟨g, rfl, hS1, hb1⟩)
    | (go_at_call 59; refine (HM.out wA.heap.size g _ hS1 hb1.size).mono ?_; rintro e w2 ⟨u2, rfl, hU2, hQ⟩; have HU2 := Lib.hid hU2; have HQ := Lib.hid hQ; clear hQ hU2)
    | (go_at_call 38; refine (done_m wA.heap.size g r w1 _ HBAD.out (by exact HQ.out)).mono ?_; rintro e w3 ⟨v3, rfl, hV3, hb3⟩; obtain ⟨AW3, cW3, AC3, cC3, AT3, cT3, rfl, rW3, rC3, rT3⟩ := hV3; have HV3 : Hid (NetO w3 wA.heap.size _ r.x) := ⟨AW3, cW3, AC3, cC3, AT3, cT3, rfl, rW3, rC3, rT3⟩; clear rW3 rC3 rT3; have hB3 : Below wA.heap.size wA w3 := (hb1.trans (HQ.out.toB hb1.size)).trans (hb3.mono (Nat.le_trans hb1.size HQ.out.size)); have hz := bl_below HZA.out hB3; have hlt1 := bl_lt hz; obtain ⟨⟨a0, a1, a2, a3, a4, a5⟩, b0, b1, b2, b3, b4, b5⟩ := blc6 hz))
  have hs0 := HS0.out
  have hU : Own (((((((w3.setCell ⟨w.heap.size + 1, 0, none⟩ (.int .i64 r.x.nodes)).setCell ⟨w.heap.size + 1, 1, none⟩ (.int .i64 r.x.now)).setCell ⟨w.heap.size + 1, 2, none⟩ (.int .i64 r.x.next)).setCell ⟨w.heap.size + 1, 3, none⟩ (.slice AW3 r.x.way.length cW3)).setCell ⟨w.heap.size + 1, 4, none⟩ (.slice AC3 r.x.cuts.length cC3)).setCell ⟨w.heap.size + 1, 5, none⟩ (.slice AT3 r.x.timers.length cT3)).alloc
      (.cells #[.int .i64 r.x.nodes, .int .i64 r.x.now, .int .i64 r.x.next, .slice AW3 r.x.way.length cW3, .slice AC3 r.x.cuts.length cC3, .slice AT3 r.x.timers.length cT3] 26)) wA.heap.size 86 u2 r.ts := by
    refine Own.alloc ?_ _
    repeat (refine Own.far ?_ (by show w.heap.size + 1 < _; omega) _)
    exact HU2.out.below hb3
  exact ret_ctt Tryz.results35 (w.heap.size + 1) 26 #[.int .i64 r.x.nodes, .int .i64 r.x.now, .int .i64 r.x.next, .slice AW3 r.x.way.length cW3, .slice AC3 r.x.cuts.length cC3, .slice AT3 r.x.timers.length cT3] _ rfl (bl_alloc (bl_all6 hz _ _ _ _ _ _) _) Tryz.underlying26 rfl sizeNet rfl
    ⟨_, _, rfl, hU.weaken (by omega), NetO.weaken ((HV3.out.far6 (by omega) _ _ _ _ _ _).alloc _) (by omega), below_alloc (below_set6 (HB0.out.trans (hB3.mono (by omega))) (by omega) _ _ _ _ _ _) _⟩

set_option maxHeartbeats 1000000 in
set_option maxRecDepth 100000 in
theorem Ready_good (x : Nt) (v : Value) (w : World) (hV : NetV w v x) (hx : Ok x) :
    Calls Tryz.prog 33 #[v] w fun e w' => ∃ u, e = .returned (.tuple #[u, .int .i64 0]) ∧ w'.ownsRow w.heap.size 3 1 u (rdyF x).length (intsV (rdyF x)) ∧ Below w.heap.size w w' := by
  obtain ⟨AW, cW, AC, cC, AT, cT, rfl, hW, hC, hT⟩ := hV
  have hb0 : Below w.heap.size w (w.alloc (.cells #[.int .i64 x.nodes, .int .i64 x.now, .int .i64 x.next, .slice AW x.way.length cW, .slice AC x.cuts.length cC, .slice AT x.timers.length cT] 26)) := below_alloc (Below.refl _ _) _
  have HB0 := Lib.hid hb0
  have HX := Lib.hid hx
  have HW := Lib.hid (hW.below hb0)
  have HC := Lib.hid (hC.below hb0)
  have HT := Lib.hid (hT.below hb0)
  have hlw := hx.way
  have hlc := hx.cuts256
  have hlt := hx.tms
  clear hb0 hx hW hC hT
  go_enter Tryz.func33, Tryz.ntmps33
  go_wp2_with (first
    | (go_at_call 36; refine (changing_ok x AW AC AT cW cC cT _ (by omega) (by omega) (by omega) HW.out HC.out HT.out ((ok_iff x).2 HX.out)).mono ?_; rintro e w1 ⟨g, rfl, hS1, hb1⟩; have HS1 := Lib.hid hS1; clear hS1)
    | (go_at_call 58; refine (ready_any _ _).mono ?_; rintro e w2 ⟨rfl, rfl⟩)
    | (go_at_call 64; refine (Collect_ready _ g _ x _ ?hbx (HS1.out.alloc _) HX.out.nodupC (by omega) (by omega)).mono ?_; (case hbx => exact (bl_cell (bl_new _ _) 0).trans rfl); rintro e w3 ⟨u, rfl, hU, hb3⟩; have HU := Lib.hid hU; clear hU))
  go_ret2
  have hb : Below w.heap.size w w3 := below_trans (below_trans HB0.out hb1) (below_trans (below_alloc (Below.refl _ _) _) hb3)
  refine ⟨u, rfl, ?_, hb⟩
  have h := HU.out
  refine ⟨h.1, ?_⟩
  rcases h.2 with hn | ⟨g', cap, cur, e', hg', rest⟩
  · exact .inl hn
  · refine .inr ⟨g', cap, cur, e', ?_, rest⟩
    have h1 := hb1.size
    simp at h1 hg'
    omega
end Go.Proofs.YthlbmcfliejdiaaGreat
end

section
set_option linter.unusedVariables false
set_option linter.unusedSimpArgs false
namespace Go.Proofs.YthlbmcfliejdiaaGreat
open Go.RowKit

theorem St.base {w : World} {B g : Nat} {x : Nt} (h : St w B g x) : B ≤ w.heap.size := by
  obtain ⟨_, _, _, hg, hB, _⟩ := h
  exact Nat.le_trans hB (Nat.le_of_lt (bl_lt hg))

set_option maxHeartbeats 400000 in
theorem Cut1_m (B g p0 p1 : Nat) (x : Nt) (a b : Int) (w : World) (hS : St w B g x) (hx : Ok x) (hp0 : w.cell? ⟨p0, 0, none⟩ = some (.int .i64 a)) (hp1 : w.cell? ⟨p1, 0, none⟩ = some (.int .i64 b)) :
    Calls Tryz.prog 62 #[.pointer (some ⟨g, 0, none⟩), .pointer (some ⟨p0, 0, none⟩), .pointer (some ⟨p1, 0, none⟩)] w (plQ B g w (cutM x a b)) := by
  have HM := Lib.hid (cut_m B g x a b w hS hx hS.base)
  clear hx hS
  obtain ⟨r, hr⟩ : ∃ r, r = cutM x a b := ⟨_, rfl⟩
  rw [← hr] at HM ⊢
  clear hr
  go_enter Tryz.func62, Tryz.ntmps62
  go_wp2_with (go_at_call 63; refine HM.out.mono ?_; rintro e w1 ⟨rfl, hQ⟩; have HQ := Lib.hid hQ; clear hQ)
  go_ret
  exact ⟨rfl, HQ.out⟩

theorem Cut_any (x : Nt) (a b : Int) (v : Value) (w : World) (hlw : x.way.length ≤ 10000000) (hlc : x.cuts.length ≤ 10000000) (hlt : x.timers.length ≤ 10000000) (hV : NetV w v x) :
    Calls Tryz.prog 32 #[v, .int .i64 a, .int .i64 b] w fun e w' => ∃ v', e = .returned (.tuple #[v', .int .i64 (formR x (cutM x a b)).e]) ∧ pubW w (formR x (cutM x a b)) v' w' := by
  cases hx : checkB x
  · refine (Cut_form x a b v w hlw hlc hlt hV hx).mono fun e w' h => ⟨zNetV, ?_, ?_, h.2⟩
    · rw [h.1]; simp [formR, hx, errR]
    · simp only [formR, hx, if_true]; exact zNetV_own _ _
  · have hk := (ok_iff x).1 hx
    have hf : formR x (cutM x a b) = cutM x a b := by simp [formR, hx]
    rw [hf]
    by_cases he : (cutM x a b).e = 0
    · refine (Cut_done x (cutM x a b).x a b v w hlw hlc hlt hV hx (fun B g p0 p1 w1 hB hS hp0 hp1 => (Cut1_m B g p0 p1 x a b w1 hS hk hp0 hp1).mono fun e w2 h => ?_)).mono fun e w' h => ?_
      · obtain ⟨h1, h2 | h2⟩ := h
        · exact absurd he h2.1
        · exact ⟨by rw [h1, he], h2.2.1, h2.2.2.1⟩
      · obtain ⟨v', h1, h2, h3⟩ := h
        exact ⟨v', by rw [h1, he], h2, h3⟩
    · refine (Cut_err x a b (cutM x a b).e v w hlw hlc hlt hV hx he (fun B g p0 p1 w1 hS hp0 hp1 => (Cut1_m B g p0 p1 x a b w1 hS hk hp0 hp1).mono fun e w2 h => ?_)).mono fun e w' h => ?_
      · obtain ⟨h1, h2 | h2⟩ := h
        · exact ⟨h1, h2.2⟩
        · exact absurd h2.1 he
      · refine ⟨zNetV, h.1, ?_, h.2⟩
        rw [cut_bad he]; exact zNetV_own _ _

set_option maxHeartbeats 400000 in
theorem Set1_m (B g p0 p1 p2 : Nat) (x : Nt) (a b c : Int) (w : World) (hS : St w B g x) (hx : Ok x) (hp0 : w.cell? ⟨p0, 0, none⟩ = some (.int .i64 a)) (hp1 : w.cell? ⟨p1, 0, none⟩ = some (.int .i64 b)) (hp2 : w.cell? ⟨p2, 0, none⟩ = some (.int .i64 c)) :
    Calls Tryz.prog 65 #[.pointer (some ⟨g, 0, none⟩), .pointer (some ⟨p0, 0, none⟩), .pointer (some ⟨p1, 0, none⟩), .pointer (some ⟨p2, 0, none⟩)] w (plQ B g w (setM x a b c)) := by
  have HM := Lib.hid (set_m B g x a b c w hS hx hS.base)
  clear hx hS
  obtain ⟨r, hr⟩ : ∃ r, r = setM x a b c := ⟨_, rfl⟩
  rw [← hr] at HM ⊢
  clear hr
  go_enter Tryz.func65, Tryz.ntmps65
  go_wp2_with (go_at_call 66; refine HM.out.mono ?_; rintro e w1 ⟨rfl, hQ⟩; have HQ := Lib.hid hQ; clear hQ)
  go_ret
  exact ⟨rfl, HQ.out⟩

theorem Set_any (x : Nt) (a b c : Int) (v : Value) (w : World) (hlw : x.way.length ≤ 10000000) (hlc : x.cuts.length ≤ 10000000) (hlt : x.timers.length ≤ 10000000) (hV : NetV w v x) :
    Calls Tryz.prog 34 #[v, .int .i64 a, .int .i64 b, .int .i64 c] w fun e w' => ∃ v', e = .returned (.tuple #[v', .int .i64 (formR x (setM x a b c)).e]) ∧ pubW w (formR x (setM x a b c)) v' w' := by
  cases hx : checkB x
  · refine (Set_form x a b c v w hlw hlc hlt hV hx).mono fun e w' h => ⟨zNetV, ?_, ?_, h.2⟩
    · rw [h.1]; simp [formR, hx, errR]
    · simp only [formR, hx, if_true]; exact zNetV_own _ _
  · have hk := (ok_iff x).1 hx
    have hf : formR x (setM x a b c) = setM x a b c := by simp [formR, hx]
    rw [hf]
    by_cases he : (setM x a b c).e = 0
    · refine (Set_done x (setM x a b c).x a b c v w hlw hlc hlt hV hx (fun B g p0 p1 p2 w1 hB hS hp0 hp1 hp2 => (Set1_m B g p0 p1 p2 x a b c w1 hS hk hp0 hp1 hp2).mono fun e w2 h => ?_)).mono fun e w' h => ?_
      · obtain ⟨h1, h2 | h2⟩ := h
        · exact absurd he h2.1
        · exact ⟨by rw [h1, he], h2.2.1, h2.2.2.1⟩
      · obtain ⟨v', h1, h2, h3⟩ := h
        exact ⟨v', by rw [h1, he], h2, h3⟩
    · refine (Set_err x a b c (setM x a b c).e v w hlw hlc hlt hV hx he (fun B g p0 p1 p2 w1 hS hp0 hp1 hp2 => (Set1_m B g p0 p1 p2 x a b c w1 hS hk hp0 hp1 hp2).mono fun e w2 h => ?_)).mono fun e w' h => ?_
      · obtain ⟨h1, h2 | h2⟩ := h
        · exact ⟨h1, h2.2⟩
        · exact absurd h2.1 he
      · refine ⟨zNetV, h.1, ?_, h.2⟩
        rw [set_bad he]; exact zNetV_own _ _

set_option maxHeartbeats 400000 in
theorem Delay1_m (B g p0 p1 : Nat) (x : Nt) (a b : Int) (w : World) (hS : St w B g x) (hx : Ok x) (hp0 : w.cell? ⟨p0, 0, none⟩ = some (.int .i64 a)) (hp1 : w.cell? ⟨p1, 0, none⟩ = some (.int .i64 b)) :
    Calls Tryz.prog 51 #[.pointer (some ⟨g, 0, none⟩), .pointer (some ⟨p0, 0, none⟩), .pointer (some ⟨p1, 0, none⟩)] w (plQ B g w (delayM x a b)) := by
  have HM := Lib.hid (delay_m B g x a b w hS hx hS.base)
  have hb := hS.base
  have hgl := hS.lt
  clear hx hS
  obtain ⟨r, hr⟩ : ∃ r, r = delayM x a b := ⟨_, rfl⟩
  rw [← hr] at HM ⊢
  clear hr
  go_enter Tryz.func51, Tryz.ntmps51
  go_wp2_with (go_at_call 52; refine HM.out.mono ?_; rintro e w1 ⟨rfl, hQ⟩; have HQ := Lib.hid hQ; clear hQ)
  go_ret
  exact ⟨rfl, HQ.out.below (below_alloc (Below.refl _ _) _) hb hgl⟩

theorem Delay_any (x : Nt) (a b : Int) (v : Value) (w : World) (hlw : x.way.length ≤ 10000000) (hlc : x.cuts.length ≤ 10000000) (hlt : x.timers.length ≤ 10000000) (hV : NetV w v x) :
    Calls Tryz.prog 16 #[v, .int .i64 a, .int .i64 b] w fun e w' => ∃ v', e = .returned (.tuple #[v', .int .i64 (formR x (delayM x a b)).e]) ∧ pubW w (formR x (delayM x a b)) v' w' := by
  cases hx : checkB x
  · refine (Delay_form x a b v w hlw hlc hlt hV hx).mono fun e w' h => ⟨zNetV, ?_, ?_, h.2⟩
    · rw [h.1]; simp [formR, hx, errR]
    · simp only [formR, hx, if_true]; exact zNetV_own _ _
  · have hk := (ok_iff x).1 hx
    have hf : formR x (delayM x a b) = delayM x a b := by simp [formR, hx]
    rw [hf]
    by_cases he : (delayM x a b).e = 0
    · refine (Delay_done x (delayM x a b).x a b v w hlw hlc hlt hV hx (fun B g p0 p1 w1 hB hS hp0 hp1 => (Delay1_m B g p0 p1 x a b w1 hS hk hp0 hp1).mono fun e w2 h => ?_)).mono fun e w' h => ?_
      · obtain ⟨h1, h2 | h2⟩ := h
        · exact absurd he h2.1
        · exact ⟨by rw [h1, he], h2.2.1, h2.2.2.1⟩
      · obtain ⟨v', h1, h2, h3⟩ := h
        exact ⟨v', by rw [h1, he], h2, h3⟩
    · refine (Delay_err x a b (delayM x a b).e v w hlw hlc hlt hV hx he (fun B g p0 p1 w1 hS hp0 hp1 => (Delay1_m B g p0 p1 x a b w1 hS hk hp0 hp1).mono fun e w2 h => ?_)).mono fun e w' h => ?_
      · obtain ⟨h1, h2 | h2⟩ := h
        · exact ⟨h1, h2.2⟩
        · exact absurd h2.1 he
      · refine ⟨zNetV, h.1, ?_, h.2⟩
        rw [delay_bad he]; exact zNetV_own _ _

end Go.Proofs.YthlbmcfliejdiaaGreat
end

section
set_option linter.unusedVariables false
set_option linter.unusedSimpArgs false
namespace Go.Proofs.YthlbmcfliejdiaaGreat
open Go.RowKit

theorem mthW.store5 {B g b : Nat} {w w1 : World} {r : Rs} (h : mthW B g w r w1) (hB : B ≤ b) (hb : w.heap.size ≤ b) (hg : g < w.heap.size) (hf : Free w1 g b) (a0 a1 a2 a3 a4 : Value) :
    mthW B g w r (((((w1.setCell ⟨b, 0, none⟩ a0).setCell ⟨b, 1, none⟩ a1).setCell ⟨b, 2, none⟩ a2).setCell ⟨b, 3, none⟩ a3).setCell ⟨b, 4, none⟩ a4) := by
  have f0 := hf.set hf.2.1 0 a0
  have f1 := f0.set hf.2.1 1 a1
  have f2 := f1.set hf.2.1 2 a2
  have f3 := f2.set hf.2.1 3 a3
  exact ((((h.store hB hb hg hf 0 a0).store hB hb hg f0 1 a1).store hB hb hg f1 2 a2).store hB hb hg f2 3 a3).store hB hb hg f3 4 a4

set_option maxHeartbeats 1000000 in
set_option maxRecDepth 100000 in
theorem act1_m (B g p : Nat) (x : Nt) (a : Ac) (w : World) (hS : St w B g x) (hx : Ok x) (hp : w.heap[p]? = some (.cells #[.int .i64 a.k, .int .i64 a.a, .int .i64 a.b, .int .i64 a.n, .string a.data] 50 (0, 0))) :
    Calls Tryz.prog 77 #[.pointer (some ⟨g, 0, none⟩), .pointer (some ⟨p, 0, none⟩)] w (ltQ B g w (sendM x a.a a.b a.data)) := by
  have hfn := Free.new hS (.cells #[.int .i64 0, .int .i64 0, .int .i64 0, .int .i64 0, .string ⟨#[]⟩] 33)
  have hm := send_m B g x (a.a) (a.b) (a.data) _ (hS.alloc (.cells #[.int .i64 0, .int .i64 0, .int .i64 0, .int .i64 0, .string ⟨#[]⟩] 33)) hx (by have := hS.base; simp; omega)
  obtain ⟨r, hr⟩ : ∃ r, r = sendM x a.a a.b a.data := ⟨_, rfl⟩
  rw [← hr] at hm ⊢
  have hlt := hS.lt
  have hbs := hS.base
  have hpl := bl_lt hp
  have HM := Lib.hid hm
  obtain ⟨⟨c0, c1, c2, c3, c4⟩, -⟩ := blc5 hp
  clear hm hr hx hS hp
  go_enter Tryz.func77, Tryz.ntmps77
  go_wp2_with (go_at_call 37; refine HM.out.mono ?_; rintro e w2 ⟨rfl, hQ⟩; have hfr := (hQ.frm (by simp; omega)) w.heap.size hfn; have HFR := Lib.hid hfr.2; have hz := hfr.1.trans (bl_new w _); have hlz := bl_lt hz; have HQ := Lib.hid hQ; clear hQ hfr; obtain ⟨⟨d0, d1, d2, d3, d4⟩, e0, e1, e2, e3, e4⟩ := blc5 hz)
  exact ret_ct Tryz.results77 w.heap.size 33 #[.int .i64 r.l.id, .int .i64 r.l.fr, .int .i64 r.l.to, .int .i64 r.l.rd, .string r.l.data] _ rfl (bl_all5 hz _ _ _ _ _) Tryz.underlying33 rfl sizeLt rfl
    ⟨rfl, (HQ.out.back (below_alloc (Below.refl _ _) _) hbs hlt).store5 hbs (Nat.le_refl _) hlt HFR.out _ _ _ _ _⟩

set_option maxHeartbeats 1000000 in
set_option maxRecDepth 100000 in
theorem act2_m (B g p : Nat) (x : Nt) (a : Ac) (w : World) (hS : St w B g x) (hx : Ok x) (hp : w.heap[p]? = some (.cells #[.int .i64 a.k, .int .i64 a.a, .int .i64 a.b, .int .i64 a.n, .string a.data] 50 (0, 0))) :
    Calls Tryz.prog 78 #[.pointer (some ⟨g, 0, none⟩), .pointer (some ⟨p, 0, none⟩)] w (ltQ B g w (deliverM x a.n)) := by
  have hfn := Free.new hS (.cells #[.int .i64 0, .int .i64 0, .int .i64 0, .int .i64 0, .string ⟨#[]⟩] 33)
  have hm := deliver_m B g x (a.n) _ (hS.alloc (.cells #[.int .i64 0, .int .i64 0, .int .i64 0, .int .i64 0, .string ⟨#[]⟩] 33)) hx (by have := hS.base; simp; omega)
  obtain ⟨r, hr⟩ : ∃ r, r = deliverM x a.n := ⟨_, rfl⟩
  rw [← hr] at hm ⊢
  have hlt := hS.lt
  have hbs := hS.base
  have hpl := bl_lt hp
  have HM := Lib.hid hm
  obtain ⟨⟨c0, c1, c2, c3, c4⟩, -⟩ := blc5 hp
  clear hm hr hx hS hp
  go_enter Tryz.func78, Tryz.ntmps78
  go_wp2_with (go_at_call 42; refine HM.out.mono ?_; rintro e w2 ⟨rfl, hQ⟩; have hfr := (hQ.frm (by simp; omega)) w.heap.size hfn; have HFR := Lib.hid hfr.2; have hz := hfr.1.trans (bl_new w _); have hlz := bl_lt hz; have HQ := Lib.hid hQ; clear hQ hfr; obtain ⟨⟨d0, d1, d2, d3, d4⟩, e0, e1, e2, e3, e4⟩ := blc5 hz)
  exact ret_ct Tryz.results78 w.heap.size 33 #[.int .i64 r.l.id, .int .i64 r.l.fr, .int .i64 r.l.to, .int .i64 r.l.rd, .string r.l.data] _ rfl (bl_all5 hz _ _ _ _ _) Tryz.underlying33 rfl sizeLt rfl
    ⟨rfl, (HQ.out.back (below_alloc (Below.refl _ _) _) hbs hlt).store5 hbs (Nat.le_refl _) hlt HFR.out _ _ _ _ _⟩

set_option maxHeartbeats 1000000 in
set_option maxRecDepth 100000 in
theorem act3_m (B g p : Nat) (x : Nt) (a : Ac) (w : World) (hS : St w B g x) (hx : Ok x) (hp : w.heap[p]? = some (.cells #[.int .i64 a.k, .int .i64 a.a, .int .i64 a.b, .int .i64 a.n, .string a.data] 50 (0, 0))) :
    Calls Tryz.prog 79 #[.pointer (some ⟨g, 0, none⟩), .pointer (some ⟨p, 0, none⟩)] w (ltQ B g w (loseM x a.n)) := by
  have hfn := Free.new hS (.cells #[.int .i64 0, .int .i64 0, .int .i64 0, .int .i64 0, .string ⟨#[]⟩] 33)
  have hm := lose_m B g x (a.n) _ (hS.alloc (.cells #[.int .i64 0, .int .i64 0, .int .i64 0, .int .i64 0, .string ⟨#[]⟩] 33)) hx (by have := hS.base; simp; omega)
  obtain ⟨r, hr⟩ : ∃ r, r = loseM x a.n := ⟨_, rfl⟩
  rw [← hr] at hm ⊢
  have hlt := hS.lt
  have hbs := hS.base
  have hpl := bl_lt hp
  have HM := Lib.hid hm
  obtain ⟨⟨c0, c1, c2, c3, c4⟩, -⟩ := blc5 hp
  clear hm hr hx hS hp
  go_enter Tryz.func79, Tryz.ntmps79
  go_wp2_with (go_at_call 48; refine HM.out.mono ?_; rintro e w2 ⟨rfl, hQ⟩; have hfr := (hQ.frm (by simp; omega)) w.heap.size hfn; have HFR := Lib.hid hfr.2; have hz := hfr.1.trans (bl_new w _); have hlz := bl_lt hz; have HQ := Lib.hid hQ; clear hQ hfr; obtain ⟨⟨d0, d1, d2, d3, d4⟩, e0, e1, e2, e3, e4⟩ := blc5 hz)
  exact ret_ct Tryz.results79 w.heap.size 33 #[.int .i64 r.l.id, .int .i64 r.l.fr, .int .i64 r.l.to, .int .i64 r.l.rd, .string r.l.data] _ rfl (bl_all5 hz _ _ _ _ _) Tryz.underlying33 rfl sizeLt rfl
    ⟨rfl, (HQ.out.back (below_alloc (Below.refl _ _) _) hbs hlt).store5 hbs (Nat.le_refl _) hlt HFR.out _ _ _ _ _⟩

set_option maxHeartbeats 1000000 in
set_option maxRecDepth 100000 in
theorem act4_m (B g p : Nat) (x : Nt) (a : Ac) (w : World) (hS : St w B g x) (hx : Ok x) (hp : w.heap[p]? = some (.cells #[.int .i64 a.k, .int .i64 a.a, .int .i64 a.b, .int .i64 a.n, .string a.data] 50 (0, 0))) :
    Calls Tryz.prog 80 #[.pointer (some ⟨g, 0, none⟩), .pointer (some ⟨p, 0, none⟩)] w (ltQ B g w (doubleM x a.n)) := by
  have hfn := Free.new hS (.cells #[.int .i64 0, .int .i64 0, .int .i64 0, .int .i64 0, .string ⟨#[]⟩] 33)
  have hm := double_m B g x (a.n) _ (hS.alloc (.cells #[.int .i64 0, .int .i64 0, .int .i64 0, .int .i64 0, .string ⟨#[]⟩] 33)) hx (by have := hS.base; simp; omega)
  obtain ⟨r, hr⟩ : ∃ r, r = doubleM x a.n := ⟨_, rfl⟩
  rw [← hr] at hm ⊢
  have hlt := hS.lt
  have hbs := hS.base
  have hpl := bl_lt hp
  have HM := Lib.hid hm
  obtain ⟨⟨c0, c1, c2, c3, c4⟩, -⟩ := blc5 hp
  clear hm hr hx hS hp
  go_enter Tryz.func80, Tryz.ntmps80
  go_wp2_with (go_at_call 50; refine HM.out.mono ?_; rintro e w2 ⟨rfl, hQ⟩; have hfr := (hQ.frm (by simp; omega)) w.heap.size hfn; have HFR := Lib.hid hfr.2; have hz := hfr.1.trans (bl_new w _); have hlz := bl_lt hz; have HQ := Lib.hid hQ; clear hQ hfr; obtain ⟨⟨d0, d1, d2, d3, d4⟩, e0, e1, e2, e3, e4⟩ := blc5 hz)
  exact ret_ct Tryz.results80 w.heap.size 33 #[.int .i64 r.l.id, .int .i64 r.l.fr, .int .i64 r.l.to, .int .i64 r.l.rd, .string r.l.data] _ rfl (bl_all5 hz _ _ _ _ _) Tryz.underlying33 rfl sizeLt rfl
    ⟨rfl, (HQ.out.back (below_alloc (Below.refl _ _) _) hbs hlt).store5 hbs (Nat.le_refl _) hlt HFR.out _ _ _ _ _⟩

set_option maxHeartbeats 1000000 in
set_option maxRecDepth 100000 in
theorem act5_m (B g p : Nat) (x : Nt) (a : Ac) (w : World) (hS : St w B g x) (hx : Ok x) (hp : w.heap[p]? = some (.cells #[.int .i64 a.k, .int .i64 a.a, .int .i64 a.b, .int .i64 a.n, .string a.data] 50 (0, 0))) :
    Calls Tryz.prog 81 #[.pointer (some ⟨g, 0, none⟩), .pointer (some ⟨p, 0, none⟩)] w (ltQ B g w (delayM x a.n a.b)) := by
  have hfn := Free.new hS (.cells #[.int .i64 0, .int .i64 0, .int .i64 0, .int .i64 0, .string ⟨#[]⟩] 33)
  have hm := delay_m B g x (a.n) (a.b) _ (hS.alloc (.cells #[.int .i64 0, .int .i64 0, .int .i64 0, .int .i64 0, .string ⟨#[]⟩] 33)) hx (by have := hS.base; simp; omega)
  obtain ⟨r, hr⟩ : ∃ r, r = delayM x a.n a.b := ⟨_, rfl⟩
  rw [← hr] at hm ⊢
  have hlt := hS.lt
  have hbs := hS.base
  have hpl := bl_lt hp
  have HM := Lib.hid hm
  obtain ⟨⟨c0, c1, c2, c3, c4⟩, -⟩ := blc5 hp
  clear hm hr hx hS hp
  go_enter Tryz.func81, Tryz.ntmps81
  go_wp2_with (go_at_call 52; refine HM.out.mono ?_; rintro e w2 ⟨rfl, hQ⟩; have hfr := (hQ.frm (by simp; omega)) w.heap.size hfn; have HFR := Lib.hid hfr.2; have hz := hfr.1.trans (bl_new w _); have hlz := bl_lt hz; have HQ := Lib.hid hQ; clear hQ hfr; obtain ⟨⟨d0, d1, d2, d3, d4⟩, e0, e1, e2, e3, e4⟩ := blc5 hz)
  exact ret_ct Tryz.results81 w.heap.size 33 #[.int .i64 r.l.id, .int .i64 r.l.fr, .int .i64 r.l.to, .int .i64 r.l.rd, .string r.l.data] _ rfl (bl_all5 hz _ _ _ _ _) Tryz.underlying33 rfl sizeLt rfl
    ⟨rfl, (HQ.out.back (below_alloc (Below.refl _ _) _) hbs hlt).store5 hbs (Nat.le_refl _) hlt HFR.out _ _ _ _ _⟩

set_option maxHeartbeats 1000000 in
set_option maxRecDepth 100000 in
theorem act6_m (B g p : Nat) (x : Nt) (a : Ac) (w : World) (hS : St w B g x) (hx : Ok x) (hp : w.heap[p]? = some (.cells #[.int .i64 a.k, .int .i64 a.a, .int .i64 a.b, .int .i64 a.n, .string a.data] 50 (0, 0))) :
    Calls Tryz.prog 82 #[.pointer (some ⟨g, 0, none⟩), .pointer (some ⟨p, 0, none⟩)] w (plQ B g w (cutM x a.a a.b)) := by
  have hm := cut_m B g x (a.a) (a.b) _ hS hx hS.base
  obtain ⟨r, hr⟩ : ∃ r, r = cutM x a.a a.b := ⟨_, rfl⟩
  rw [← hr] at hm ⊢
  have HM := Lib.hid hm
  obtain ⟨⟨c0, c1, c2, c3, c4⟩, -⟩ := blc5 hp
  clear hm hr hx hS hp
  go_enter Tryz.func82, Tryz.ntmps82
  go_wp2_with (go_at_call 63; refine HM.out.mono ?_; rintro e w2 ⟨rfl, hQ⟩; have HQ := Lib.hid hQ; clear hQ)
  go_ret
  exact ⟨rfl, HQ.out⟩

set_option maxHeartbeats 1000000 in
set_option maxRecDepth 100000 in
theorem act7_m (B g p : Nat) (x : Nt) (a : Ac) (w : World) (hS : St w B g x) (hx : Ok x) (hp : w.heap[p]? = some (.cells #[.int .i64 a.k, .int .i64 a.a, .int .i64 a.b, .int .i64 a.n, .string a.data] 50 (0, 0))) :
    Calls Tryz.prog 83 #[.pointer (some ⟨g, 0, none⟩), .pointer (some ⟨p, 0, none⟩)] w (plQ B g w (healM x a.a a.b)) := by
  have hm := heal_m B g x (a.a) (a.b) _ hS hx hS.base
  obtain ⟨r, hr⟩ : ∃ r, r = healM x a.a a.b := ⟨_, rfl⟩
  rw [← hr] at hm ⊢
  have HM := Lib.hid hm
  obtain ⟨⟨c0, c1, c2, c3, c4⟩, -⟩ := blc5 hp
  clear hm hr hx hS hp
  go_enter Tryz.func83, Tryz.ntmps83
  go_wp2_with (go_at_call 84; refine HM.out.mono ?_; rintro e w2 ⟨rfl, hQ⟩; have HQ := Lib.hid hQ; clear hQ)
  go_ret
  exact ⟨rfl, HQ.out⟩

set_option maxHeartbeats 1000000 in
set_option maxRecDepth 100000 in
theorem act8_m (B g p : Nat) (x : Nt) (a : Ac) (w : World) (hS : St w B g x) (hx : Ok x) (hp : w.heap[p]? = some (.cells #[.int .i64 a.k, .int .i64 a.a, .int .i64 a.b, .int .i64 a.n, .string a.data] 50 (0, 0))) :
    Calls Tryz.prog 85 #[.pointer (some ⟨g, 0, none⟩), .pointer (some ⟨p, 0, none⟩)] w (plQ B g w (setM x a.a a.b a.n)) := by
  have hm := set_m B g x (a.a) (a.b) (a.n) _ hS hx hS.base
  obtain ⟨r, hr⟩ : ∃ r, r = setM x a.a a.b a.n := ⟨_, rfl⟩
  rw [← hr] at hm ⊢
  have HM := Lib.hid hm
  obtain ⟨⟨c0, c1, c2, c3, c4⟩, -⟩ := blc5 hp
  clear hm hr hx hS hp
  go_enter Tryz.func85, Tryz.ntmps85
  go_wp2_with (go_at_call 66; refine HM.out.mono ?_; rintro e w2 ⟨rfl, hQ⟩; have HQ := Lib.hid hQ; clear hQ)
  go_ret
  exact ⟨rfl, HQ.out⟩

set_option maxHeartbeats 1000000 in
set_option maxRecDepth 100000 in
theorem act9_m (B g p : Nat) (x : Nt) (a : Ac) (w : World) (hS : St w B g x) (hx : Ok x) (hp : w.heap[p]? = some (.cells #[.int .i64 a.k, .int .i64 a.a, .int .i64 a.b, .int .i64 a.n, .string a.data] 50 (0, 0))) :
    Calls Tryz.prog 86 #[.pointer (some ⟨g, 0, none⟩), .pointer (some ⟨p, 0, none⟩)] w (plQ B g w (stopM x a.a a.b)) := by
  have hm := stop_m B g x (a.a) (a.b) _ hS hx hS.base
  obtain ⟨r, hr⟩ : ∃ r, r = stopM x a.a a.b := ⟨_, rfl⟩
  rw [← hr] at hm ⊢
  have HM := Lib.hid hm
  obtain ⟨⟨c0, c1, c2, c3, c4⟩, -⟩ := blc5 hp
  clear hm hr hx hS hp
  go_enter Tryz.func86, Tryz.ntmps86
  go_wp2_with (go_at_call 87; refine HM.out.mono ?_; rintro e w2 ⟨rfl, hQ⟩; have HQ := Lib.hid hQ; clear hQ)
  go_ret
  exact ⟨rfl, HQ.out⟩

theorem act0_m (B g : Nat) (w : World) : Calls Tryz.prog 88 #[.pointer (some ⟨g, 0, none⟩)] w (plQ B g w (errR 1)) := by
  go_enter Tryz.func88, Tryz.ntmps88
  go_wp2
  go_ret
  exact ⟨rfl, .inl ⟨by decide, Below.refl _ _⟩⟩

set_option maxHeartbeats 1000000 in
set_option maxRecDepth 100000 in
theorem actOf_1 (a : Ac) (w : World) (hk : a.k = 1) : Calls Tryz.prog 53 #[.agg #[.int .i64 a.k, .int .i64 a.a, .int .i64 a.b, .int .i64 a.n, .string a.data]] w fun e w' => e = .returned (.iface 132 (.func (.func 77) #[] #[.pointer (some ⟨w.heap.size, 0, none⟩)])) ∧ w' = w.alloc (.cells #[.int .i64 a.k, .int .i64 a.a, .int .i64 a.b, .int .i64 a.n, .string a.data] 50) := by
  have q1 : (a.k == 1) = true := by rw [beq_iff_eq]; omega
  have HK := Lib.hid hk
  clear hk
  go_enter Tryz.func53, Tryz.ntmps53
  go_wp2
  go_ret
  exact ⟨rfl, rfl⟩

set_option maxHeartbeats 1000000 in
set_option maxRecDepth 100000 in
theorem actOf_2 (a : Ac) (w : World) (hk : a.k = 2) : Calls Tryz.prog 53 #[.agg #[.int .i64 a.k, .int .i64 a.a, .int .i64 a.b, .int .i64 a.n, .string a.data]] w fun e w' => e = .returned (.iface 132 (.func (.func 78) #[] #[.pointer (some ⟨w.heap.size, 0, none⟩)])) ∧ w' = w.alloc (.cells #[.int .i64 a.k, .int .i64 a.a, .int .i64 a.b, .int .i64 a.n, .string a.data] 50) := by
  have q1 : (a.k == 1) = false := by rw [beq_eq_false_iff_ne]; omega
  have q2 : (a.k == 2) = true := by rw [beq_iff_eq]; omega
  have HK := Lib.hid hk
  clear hk
  go_enter Tryz.func53, Tryz.ntmps53
  go_wp2
  go_ret
  exact ⟨rfl, rfl⟩

set_option maxHeartbeats 1000000 in
set_option maxRecDepth 100000 in
theorem actOf_3 (a : Ac) (w : World) (hk : a.k = 3) : Calls Tryz.prog 53 #[.agg #[.int .i64 a.k, .int .i64 a.a, .int .i64 a.b, .int .i64 a.n, .string a.data]] w fun e w' => e = .returned (.iface 132 (.func (.func 79) #[] #[.pointer (some ⟨w.heap.size, 0, none⟩)])) ∧ w' = w.alloc (.cells #[.int .i64 a.k, .int .i64 a.a, .int .i64 a.b, .int .i64 a.n, .string a.data] 50) := by
  have q1 : (a.k == 1) = false := by rw [beq_eq_false_iff_ne]; omega
  have q2 : (a.k == 2) = false := by rw [beq_eq_false_iff_ne]; omega
  have q3 : (a.k == 3) = true := by rw [beq_iff_eq]; omega
  have HK := Lib.hid hk
  clear hk
  go_enter Tryz.func53, Tryz.ntmps53
  go_wp2
  go_ret
  exact ⟨rfl, rfl⟩

set_option maxHeartbeats 1000000 in
set_option maxRecDepth 100000 in
theorem actOf_4 (a : Ac) (w : World) (hk : a.k = 4) : Calls Tryz.prog 53 #[.agg #[.int .i64 a.k, .int .i64 a.a, .int .i64 a.b, .int .i64 a.n, .string a.data]] w fun e w' => e = .returned (.iface 132 (.func (.func 80) #[] #[.pointer (some ⟨w.heap.size, 0, none⟩)])) ∧ w' = w.alloc (.cells #[.int .i64 a.k, .int .i64 a.a, .int .i64 a.b, .int .i64 a.n, .string a.data] 50) := by
  have q1 : (a.k == 1) = false := by rw [beq_eq_false_iff_ne]; omega
  have q2 : (a.k == 2) = false := by rw [beq_eq_false_iff_ne]; omega
  have q3 : (a.k == 3) = false := by rw [beq_eq_false_iff_ne]; omega
  have q4 : (a.k == 4) = true := by rw [beq_iff_eq]; omega
  have HK := Lib.hid hk
  clear hk
  go_enter Tryz.func53, Tryz.ntmps53
  go_wp2
  go_ret
  exact ⟨rfl, rfl⟩

set_option maxHeartbeats 1000000 in
set_option maxRecDepth 100000 in
theorem actOf_5 (a : Ac) (w : World) (hk : a.k = 5) : Calls Tryz.prog 53 #[.agg #[.int .i64 a.k, .int .i64 a.a, .int .i64 a.b, .int .i64 a.n, .string a.data]] w fun e w' => e = .returned (.iface 132 (.func (.func 81) #[] #[.pointer (some ⟨w.heap.size, 0, none⟩)])) ∧ w' = w.alloc (.cells #[.int .i64 a.k, .int .i64 a.a, .int .i64 a.b, .int .i64 a.n, .string a.data] 50) := by
  have q1 : (a.k == 1) = false := by rw [beq_eq_false_iff_ne]; omega
  have q2 : (a.k == 2) = false := by rw [beq_eq_false_iff_ne]; omega
  have q3 : (a.k == 3) = false := by rw [beq_eq_false_iff_ne]; omega
  have q4 : (a.k == 4) = false := by rw [beq_eq_false_iff_ne]; omega
  have q5 : (a.k == 5) = true := by rw [beq_iff_eq]; omega
  have HK := Lib.hid hk
  clear hk
  go_enter Tryz.func53, Tryz.ntmps53
  go_wp2
  go_ret
  exact ⟨rfl, rfl⟩

set_option maxHeartbeats 1000000 in
set_option maxRecDepth 100000 in
theorem actOf_6 (a : Ac) (w : World) (hk : a.k = 6) : Calls Tryz.prog 53 #[.agg #[.int .i64 a.k, .int .i64 a.a, .int .i64 a.b, .int .i64 a.n, .string a.data]] w fun e w' => e = .returned (.iface 133 (.func (.func 82) #[] #[.pointer (some ⟨w.heap.size, 0, none⟩)])) ∧ w' = w.alloc (.cells #[.int .i64 a.k, .int .i64 a.a, .int .i64 a.b, .int .i64 a.n, .string a.data] 50) := by
  have q1 : (a.k == 1) = false := by rw [beq_eq_false_iff_ne]; omega
  have q2 : (a.k == 2) = false := by rw [beq_eq_false_iff_ne]; omega
  have q3 : (a.k == 3) = false := by rw [beq_eq_false_iff_ne]; omega
  have q4 : (a.k == 4) = false := by rw [beq_eq_false_iff_ne]; omega
  have q5 : (a.k == 5) = false := by rw [beq_eq_false_iff_ne]; omega
  have q6 : (a.k == 6) = true := by rw [beq_iff_eq]; omega
  have HK := Lib.hid hk
  clear hk
  go_enter Tryz.func53, Tryz.ntmps53
  go_wp2
  go_ret
  exact ⟨rfl, rfl⟩

set_option maxHeartbeats 1000000 in
set_option maxRecDepth 100000 in
theorem actOf_7 (a : Ac) (w : World) (hk : a.k = 7) : Calls Tryz.prog 53 #[.agg #[.int .i64 a.k, .int .i64 a.a, .int .i64 a.b, .int .i64 a.n, .string a.data]] w fun e w' => e = .returned (.iface 133 (.func (.func 83) #[] #[.pointer (some ⟨w.heap.size, 0, none⟩)])) ∧ w' = w.alloc (.cells #[.int .i64 a.k, .int .i64 a.a, .int .i64 a.b, .int .i64 a.n, .string a.data] 50) := by
  have q1 : (a.k == 1) = false := by rw [beq_eq_false_iff_ne]; omega
  have q2 : (a.k == 2) = false := by rw [beq_eq_false_iff_ne]; omega
  have q3 : (a.k == 3) = false := by rw [beq_eq_false_iff_ne]; omega
  have q4 : (a.k == 4) = false := by rw [beq_eq_false_iff_ne]; omega
  have q5 : (a.k == 5) = false := by rw [beq_eq_false_iff_ne]; omega
  have q6 : (a.k == 6) = false := by rw [beq_eq_false_iff_ne]; omega
  have q7 : (a.k == 7) = true := by rw [beq_iff_eq]; omega
  have HK := Lib.hid hk
  clear hk
  go_enter Tryz.func53, Tryz.ntmps53
  go_wp2
  go_ret
  exact ⟨rfl, rfl⟩

set_option maxHeartbeats 1000000 in
set_option maxRecDepth 100000 in
theorem actOf_8 (a : Ac) (w : World) (hk : a.k = 8) : Calls Tryz.prog 53 #[.agg #[.int .i64 a.k, .int .i64 a.a, .int .i64 a.b, .int .i64 a.n, .string a.data]] w fun e w' => e = .returned (.iface 133 (.func (.func 85) #[] #[.pointer (some ⟨w.heap.size, 0, none⟩)])) ∧ w' = w.alloc (.cells #[.int .i64 a.k, .int .i64 a.a, .int .i64 a.b, .int .i64 a.n, .string a.data] 50) := by
  have q1 : (a.k == 1) = false := by rw [beq_eq_false_iff_ne]; omega
  have q2 : (a.k == 2) = false := by rw [beq_eq_false_iff_ne]; omega
  have q3 : (a.k == 3) = false := by rw [beq_eq_false_iff_ne]; omega
  have q4 : (a.k == 4) = false := by rw [beq_eq_false_iff_ne]; omega
  have q5 : (a.k == 5) = false := by rw [beq_eq_false_iff_ne]; omega
  have q6 : (a.k == 6) = false := by rw [beq_eq_false_iff_ne]; omega
  have q7 : (a.k == 7) = false := by rw [beq_eq_false_iff_ne]; omega
  have q8 : (a.k == 8) = true := by rw [beq_iff_eq]; omega
  have HK := Lib.hid hk
  clear hk
  go_enter Tryz.func53, Tryz.ntmps53
  go_wp2
  go_ret
  exact ⟨rfl, rfl⟩

set_option maxHeartbeats 1000000 in
set_option maxRecDepth 100000 in
theorem actOf_9 (a : Ac) (w : World) (hk : a.k = 9) : Calls Tryz.prog 53 #[.agg #[.int .i64 a.k, .int .i64 a.a, .int .i64 a.b, .int .i64 a.n, .string a.data]] w fun e w' => e = .returned (.iface 133 (.func (.func 86) #[] #[.pointer (some ⟨w.heap.size, 0, none⟩)])) ∧ w' = w.alloc (.cells #[.int .i64 a.k, .int .i64 a.a, .int .i64 a.b, .int .i64 a.n, .string a.data] 50) := by
  have q1 : (a.k == 1) = false := by rw [beq_eq_false_iff_ne]; omega
  have q2 : (a.k == 2) = false := by rw [beq_eq_false_iff_ne]; omega
  have q3 : (a.k == 3) = false := by rw [beq_eq_false_iff_ne]; omega
  have q4 : (a.k == 4) = false := by rw [beq_eq_false_iff_ne]; omega
  have q5 : (a.k == 5) = false := by rw [beq_eq_false_iff_ne]; omega
  have q6 : (a.k == 6) = false := by rw [beq_eq_false_iff_ne]; omega
  have q7 : (a.k == 7) = false := by rw [beq_eq_false_iff_ne]; omega
  have q8 : (a.k == 8) = false := by rw [beq_eq_false_iff_ne]; omega
  have q9 : (a.k == 9) = true := by rw [beq_iff_eq]; omega
  have HK := Lib.hid hk
  clear hk
  go_enter Tryz.func53, Tryz.ntmps53
  go_wp2
  go_ret
  exact ⟨rfl, rfl⟩

set_option maxHeartbeats 1000000 in
set_option maxRecDepth 100000 in
theorem actOf_10 (a : Ac) (w : World) (hk : a.k = 10) : Calls Tryz.prog 53 #[.agg #[.int .i64 a.k, .int .i64 a.a, .int .i64 a.b, .int .i64 a.n, .string a.data]] w fun e w' => e = .returned (.iface 135 (.agg #[])) ∧ w' = w.alloc (.cells #[.int .i64 a.k, .int .i64 a.a, .int .i64 a.b, .int .i64 a.n, .string a.data] 50) := by
  have q1 : (a.k == 1) = false := by rw [beq_eq_false_iff_ne]; omega
  have q2 : (a.k == 2) = false := by rw [beq_eq_false_iff_ne]; omega
  have q3 : (a.k == 3) = false := by rw [beq_eq_false_iff_ne]; omega
  have q4 : (a.k == 4) = false := by rw [beq_eq_false_iff_ne]; omega
  have q5 : (a.k == 5) = false := by rw [beq_eq_false_iff_ne]; omega
  have q6 : (a.k == 6) = false := by rw [beq_eq_false_iff_ne]; omega
  have q7 : (a.k == 7) = false := by rw [beq_eq_false_iff_ne]; omega
  have q8 : (a.k == 8) = false := by rw [beq_eq_false_iff_ne]; omega
  have q9 : (a.k == 9) = false := by rw [beq_eq_false_iff_ne]; omega
  have q10 : (a.k == 10) = true := by rw [beq_iff_eq]; omega
  have HK := Lib.hid hk
  clear hk
  go_enter Tryz.func53, Tryz.ntmps53
  go_wp2
  go_ret
  exact ⟨rfl, rfl⟩

set_option maxHeartbeats 1000000 in
set_option maxRecDepth 100000 in
theorem actOf_0 (a : Ac) (w : World) (hk : a.k < 1 ∨ 10 < a.k) : Calls Tryz.prog 53 #[.agg #[.int .i64 a.k, .int .i64 a.a, .int .i64 a.b, .int .i64 a.n, .string a.data]] w fun e w' => e = .returned (.iface 133 (.func (.func 88) #[] #[])) ∧ w' = w.alloc (.cells #[.int .i64 a.k, .int .i64 a.a, .int .i64 a.b, .int .i64 a.n, .string a.data] 50) := by
  have q1 : (a.k == 1) = false := by rw [beq_eq_false_iff_ne]; omega
  have q2 : (a.k == 2) = false := by rw [beq_eq_false_iff_ne]; omega
  have q3 : (a.k == 3) = false := by rw [beq_eq_false_iff_ne]; omega
  have q4 : (a.k == 4) = false := by rw [beq_eq_false_iff_ne]; omega
  have q5 : (a.k == 5) = false := by rw [beq_eq_false_iff_ne]; omega
  have q6 : (a.k == 6) = false := by rw [beq_eq_false_iff_ne]; omega
  have q7 : (a.k == 7) = false := by rw [beq_eq_false_iff_ne]; omega
  have q8 : (a.k == 8) = false := by rw [beq_eq_false_iff_ne]; omega
  have q9 : (a.k == 9) = false := by rw [beq_eq_false_iff_ne]; omega
  have q10 : (a.k == 10) = false := by rw [beq_eq_false_iff_ne]; omega
  have HK := Lib.hid hk
  clear hk
  go_enter Tryz.func53, Tryz.ntmps53
  go_wp2
  go_ret
  exact ⟨rfl, rfl⟩

end Go.Proofs.YthlbmcfliejdiaaGreat
end
