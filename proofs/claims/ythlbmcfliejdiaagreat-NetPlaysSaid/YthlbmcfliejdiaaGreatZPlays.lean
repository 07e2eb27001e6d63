/- NetPlays: a round of its loop. (Printed by wip/gen_lawp.py.). NetPlays. (Printed by wip/gen_lawpb.py.). The arguments of the laws, opened: lists with their capacity, what is seen. (Printed by wip/gen_open3.py.). The arguments of the laws, opened: a list of what is seen. (Printed by wip/gen_open4.py.). The given row of NetPlays. (Printed by wip/gen_row.py.). -/
import Derived.Test.YthlbmcfliejdiaaGreatGp
import Derived.Test.YthlbmcfliejdiaaGreatGo
import Derived.Deep.RegionHeld3
import Derived.Test.YthlbmcfliejdiaaGreatGm
import Derived.Test.YthlbmcfliejdiaaGreatGj
import Derived.Test.YthlbmcfliejdiaaGreatRows
import Derived.WalkKit
import Derived.ProofKit
import Derived.OpenShut
import Derived.ShutString
import Derived.ChangeOld
import Derived.Below
import Derived.SizedLaws
import Derived.Carry
section
set_option linter.unusedVariables false
set_option linter.unusedSimpArgs false
namespace Go.Proofs.YthlbmcfliejdiaaGreat
open Go.RowKit

theorem own_far6 {α : Type} [Enc α] {w : World} {B b : Nat} {e : TypeId} {v : Value} {xs : List α} (h : Own w B e v xs) (hp : b < B) (a0 a1 a2 a3 a4 a5 : Value) :
    Own ((((((w.setCell ⟨b, 0, none⟩ a0).setCell ⟨b, 1, none⟩ a1).setCell ⟨b, 2, none⟩ a2).setCell ⟨b, 3, none⟩ a3).setCell ⟨b, 4, none⟩ a4).setCell ⟨b, 5, none⟩ a5) B e v xs :=
  (((((h.far (p := ⟨b, 0, none⟩) hp _).far (p := ⟨b, 1, none⟩) hp _).far (p := ⟨b, 2, none⟩) hp _).far (p := ⟨b, 3, none⟩) hp _).far (p := ⟨b, 4, none⟩) hp _).far (p := ⟨b, 5, none⟩) hp _
theorem put13_ownF {α : Type} [Enc α] {w : World} {B b : Nat} {e : TypeId} {v : Value} {xs : List α} {a0 a1 a2 a3 a4 a5 a6 a7 a8 a9 a10 a11 a12 : Value} (h : Own w B e v xs) (hb : b < B) : Own (put13 w b a0 a1 a2 a3 a4 a5 a6 a7 a8 a9 a10 a11 a12) B e v xs :=
  put13_own h (fun e => by have := (h.lt _ e).1; omega)
theorem Do_own {x : Nt} {a : Ac} {y : Nt} {s : Sn} {k : Int} (hy : y = doXR x a) (hs : s = doSR x a) (hk : k = doER x) (v : Value) (w : World) (hlw : x.way.length ≤ 300) (hlc : x.cuts.length ≤ 300) (hlt : x.timers.length ≤ 300) (hV : NetV w v x) :
    Calls Tryz.prog 19 #[v, .agg #[.int .i64 a.k, .int .i64 a.a, .int .i64 a.b, .int .i64 a.n, .string a.data]] w fun e w' => ∃ AW cW AC cC AT cT A c, e = .returned (.tuple #[.agg #[.int .i64 y.nodes, .int .i64 y.now, .int .i64 y.next, .slice AW y.way.length cW, .slice AC y.cuts.length cC, .slice AT y.timers.length cT], .agg #[.int .i64 s.a.k, .int .i64 s.a.a, .int .i64 s.a.b, .int .i64 s.a.n, .string s.a.data, .int .i64 s.e, .int .i64 s.now, .int .i64 s.l.id, .int .i64 s.l.fr, .int .i64 s.l.to, .int .i64 s.l.rd, .string s.l.data, .slice A s.ts.length c], .int .i64 k]) ∧
      NetO w' w.heap.size (.agg #[.int .i64 y.nodes, .int .i64 y.now, .int .i64 y.next, .slice AW y.way.length cW, .slice AC y.cuts.length cC, .slice AT y.timers.length cT]) y ∧ Own w' w.heap.size 86 (.slice A s.ts.length c) s.ts ∧ Below w.heap.size w w' := by
  subst hy hs hk
  refine (Do_any x a v w (by omega) (by omega) (by omega) hV).mono fun e w' h => ?_
  obtain ⟨v', u, rfl, hu, hn, hb⟩ := h
  obtain ⟨A, c, rfl, -, -⟩ := hu.slice
  obtain ⟨AW, cW, AC, cC, AT, cT, rfl, h1, h2, h3⟩ := hn
  exact ⟨AW, cW, AC, cC, AT, cT, A, c, rfl, ⟨AW, cW, AC, cC, AT, cT, rfl, h1, h2, h3⟩, hu, hb⟩
/-- What R.Do returns, as it is read in every later world. -/
theorem RDo_read (x : Nt) (a : Ac) (y : Nt) (z : Sn) (k : Int) (hy : y = doXR x a) (hz : z = doSR x a) (hk : k = doER x) (w : World) (AW AC AT : Option Addr) (cW cC cT : Nat) (hW : Rd w AW x.way) (hC : Rd w AC x.cuts) (hT : Rd w AT x.timers) (hcap : x.way.length ≤ cW) (hlc : x.cuts.length ≤ 10000000) (hlw : x.way.length ≤ 10000000) (hlt : x.timers.length ≤ 10000000) :
    Calls Tryz.prog 20 #[.agg #[.int .i64 x.nodes, .int .i64 x.now, .int .i64 x.next, .slice AW x.way.length cW, .slice AC x.cuts.length cC, .slice AT x.timers.length cT], .agg #[.int .i64 a.k, .int .i64 a.a, .int .i64 a.b, .int .i64 a.n, .string a.data]] w fun e w' => ∃ AW2 cW2 AC2 cC2 AT2 cT2 AF cF, e = .returned (.agg #[.int .i64 y.nodes, .int .i64 y.now, .int .i64 y.next, .slice AW2 y.way.length cW2, .slice AC2 y.cuts.length cC2, .slice AT2 y.timers.length cT2, .int .i64 z.a.k, .int .i64 z.a.a, .int .i64 z.a.b, .int .i64 z.a.n, .string z.a.data, .int .i64 z.e, .int .i64 z.now, .int .i64 z.l.id, .int .i64 z.l.fr, .int .i64 z.l.to, .int .i64 z.l.rd, .string z.l.data, .slice AF z.ts.length cF, .int .i64 k]) ∧
      (∀ W, Abv w.heap.size w' W → Rd W AW x.way → Rd W AC x.cuts → Rd W AT x.timers → NetV W (.agg #[.int .i64 y.nodes, .int .i64 y.now, .int .i64 y.next, .slice AW2 y.way.length cW2, .slice AC2 y.cuts.length cC2, .slice AT2 y.timers.length cT2]) y ∧ Rd W AF z.ts) ∧ Below w.heap.size w w' := by
  subst hy hz hk
  refine (RDo_rows x a w AW AC AT cW cC cT hW hC hT hcap hlc hlw hlt).mono fun e w' h => ?_
  obtain ⟨v, rfl, ⟨AW', cW', AC', cC', AT', cT', AF, cF, rfl, r1, r2, r3, B4, hB4, r4⟩, hb⟩ := h
  exact ⟨AW', cW', AC', cC', AT', cT', AF, cF, rfl, fun W hA h1 h2 h3 => ⟨⟨AW', cW', AC', cC', AT', cT', rfl, r1.rd hA h1, r2.rd hA h2, r3.rd hA h3⟩, Own.rd (Own.abv r4 hB4 hA)⟩, hb⟩
noncomputable def plBody : Code := ((Tryz.f4.body.bind loopF).getD .skip)
set_option maxRecDepth 100000 in
theorem stp_all (f : Nat → Value) : st 169 f = ⟨#[f 0, f 1, f 2, f 3, f 4, f 5, f 6, f 7, f 8, f 9, f 10, f 11, f 12, f 13, f 14, f 15, f 16, f 17, f 18, f 19, f 20, f 21, f 22, f 23, f 24, f 25, f 26, f 27, f 28, f 29, f 30, f 31, f 32, f 33, f 34, f 35, f 36, f 37, f 38, f 39, f 40, f 41, f 42, f 43, f 44, f 45, f 46, f 47, f 48, f 49, f 50, f 51, f 52, f 53, f 54, f 55, f 56, f 57, f 58, f 59, f 60, f 61, f 62, f 63, f 64, f 65, f 66, f 67, f 68, f 69, f 70, f 71, f 72, f 73, f 74, f 75, f 76, f 77, f 78, f 79, f 80, f 81, f 82, f 83, f 84, f 85, f 86, f 87, f 88, f 89, f 90, f 91, f 92, f 93, f 94, f 95, f 96, f 97, f 98, f 99, f 100, f 101, f 102, f 103, f 104, f 105, f 106, f 107, f 108, f 109, f 110, f 111, f 112, f 113, f 114, f 115, f 116, f 117, f 118, f 119, f 120, f 121, f 122, f 123, f 124, f 125, f 126, f 127, f 128, f 129, f 130, f 131, f 132, f 133, f 134, f 135, f 136, f 137, f 138, f 139, f 140, f 141, f 142, f 143, f 144, f 145, f 146, f 147, f 148, f 149, f 150, f 151, f 152, f 153, f 154, f 155, f 156, f 157, f 158, f 159, f 160, f 161, f 162, f 163, f 164, f 165, f 166, f 167, f 168], []⟩ := by
  have h : List.range 169 = [0, 1, 2, 3, 4, 5, 6, 7, 8, 9, 10, 11, 12, 13, 14, 15, 16, 17, 18, 19, 20, 21, 22, 23, 24, 25, 26, 27, 28, 29, 30, 31, 32, 33, 34, 35, 36, 37, 38, 39, 40, 41, 42, 43, 44, 45, 46, 47, 48, 49, 50, 51, 52, 53, 54, 55, 56, 57, 58, 59, 60, 61, 62, 63, 64, 65, 66, 67, 68, 69, 70, 71, 72, 73, 74, 75, 76, 77, 78, 79, 80, 81, 82, 83, 84, 85, 86, 87, 88, 89, 90, 91, 92, 93, 94, 95, 96, 97, 98, 99, 100, 101, 102, 103, 104, 105, 106, 107, 108, 109, 110, 111, 112, 113, 114, 115, 116, 117, 118, 119, 120, 121, 122, 123, 124, 125, 126, 127, 128, 129, 130, 131, 132, 133, 134, 135, 136, 137, 138, 139, 140, 141, 142, 143, 144, 145, 146, 147, 148, 149, 150, 151, 152, 153, 154, 155, 156, 157, 158, 159, 160, 161, 162, 163, 164, 165, 166, 167, 168] := by decide +kernel
  unfold st
  rw [h]
  rfl
def plI (xs : List Ac) (v1 v2 v3 v4 : Value) (g5 : Nat) (w0 : World) (a : Act) (wr : World) : Prop :=
  ∃ f, a = st 169 f ∧ ∃ (i : Nat), i ≤ xs.length ∧ i ≤ 3 ∧ f 1 = v1 ∧ f 2 = v2 ∧ f 3 = v3 ∧ f 4 = v4 ∧ f 5 = .pointer (some ⟨g5, 0, none⟩) ∧ f 11 = .int .i64 (i : Int) ∧ Hid (Below w0.heap.size w0 wr)
def plMu (a : Act) (_ : World) : Nat := 3 - (intOf (a.tmps.getD 11 undef)).toNat
set_option maxHeartbeats 8000000 in
set_option maxRecDepth 100000 in
theorem pl_round (xs : List Ac) (A : Option Addr) (c : Nat) (n m : Int) (v3 : Value) (g5 : Nat) (w0 wr : World) (f : Nat → Value) (Q0 : Exit → Act → World → Prop) (i : Nat) (AW AC AT : Option Addr) (cW cC cT : Nat) (x : Nt) (hlx : xs.length ≤ 1000000) (hlk : i < xs.length) (hl3 : i < 3)
    (HR : Hid (Rd w0 A xs)) (HRW : Hid (Rd w0 AW x.way)) (HRC : Hid (Rd w0 AC x.cuts)) (HRT : Hid (Rd w0 AT x.timers)) (hcap : x.way.length ≤ cW) (hlw : x.way.length ≤ 300) (hlc : x.cuts.length ≤ 300) (hlt : x.timers.length ≤ 300) (HG0 : Hid (w0.heap[g5]? = some (.cells #[.int .i64 x.nodes, .int .i64 x.now, .int .i64 x.next, .slice AW x.way.length cW, .slice AC x.cuts.length cC, .slice AT x.timers.length cT] 26 (0, 0))))
    (h1 : f 1 = .int .i64 n) (h2 : f 2 = .slice A xs.length c) (h3 : f 3 = v3) (h4 : f 4 = .int .i64 m) (h5 : f 5 = .pointer (some ⟨g5, 0, none⟩)) (h11 : f 11 = .int .i64 (i : Int)) (HB : Hid (Below w0.heap.size w0 wr))
    (hQ0 : ∀ (d : Option Tmp) (v : Value) c a w, Q0 (.panic c) (a.put d v) w → Q0 (.panic c) a w) :
    plBody.wp Tryz.prog (Exit.then (fun a' w' => plI xs (.int .i64 n) (.slice A xs.length c) v3 (.int .i64 m) g5 w0 a' w' ∧ plMu a' w' < plMu (st 169 f) wr) Q0) (st 169 f) wr := by
  conv => arg 2; whnf
  have hmu : Hid (plMu (st 169 f) wr = 3 - i) := by
    show _ = _
    unfold plMu
    rw [st_getD (by decide), h11]; rfl
  rw [hmu.out]
  rw [stp_all, h1, h2, h3, h4, h5, h11]
  clear h1 h2 h3 h4 h5 h11
  obtain ⟨bb, off, d, rfl, hd, c0, c1, c2, c3, c4⟩ := (HR.out.below HB.out).ac i hlk
  have hbt : bb < wr.heap.size := World.block_lt_of_cell? wr _ c0
  have HG : Hid (wr.heap[g5]? = some (.cells #[.int .i64 x.nodes, .int .i64 x.now, .int .i64 x.next, .slice AW x.way.length cW, .slice AC x.cuts.length cC, .slice AT x.timers.length cT] 26 (0, 0))) := bl_below HG0.out HB.out
  obtain ⟨z', hz'⟩ : ∃ y, y = doXR x d := ⟨_, rfl⟩
  obtain ⟨s', hs'⟩ : ∃ z, z = doSR x d := ⟨_, rfl⟩
  obtain ⟨k, hk⟩ : ∃ k, k = doER x := ⟨_, rfl⟩
  have HDO := Lib.hid fun (v : Value) (w : World) (hV : NetV w v x) => Do_own hz' hs' hk v w hlw hlc hlt hV
  have HRD := Lib.hid fun (w : World) (hW : Rd w AW x.way) (hC : Rd w AC x.cuts) (hT : Rd w AT x.timers) => RDo_read x d z' s' k hz' hs' hk w AW AC AT cW cC cT hW hC hT hcap (by omega) (by omega) (by omega)
  have HVZ : Hid (NetV wr (.agg #[.int .i64 x.nodes, .int .i64 x.now, .int .i64 x.next, .slice AW x.way.length cW, .slice AC x.cuts.length cC, .slice AT x.timers.length cT]) x) := ⟨AW, cW, AC, cC, AT, cT, rfl, HRW.out.below HB.out, HRC.out.below HB.out, HRT.out.below HB.out⟩
  have HLL : Hid (z'.way.length ≤ 300 ∧ z'.cuts.length ≤ 300 ∧ z'.timers.length ≤ 300 ∧ s'.ts.length ≤ 300) := by
    obtain ⟨q1, q2, q3⟩ := lens_do (x := x) d hlw hlc hlt
    refine ⟨by rw [hz']; exact q1, by rw [hz']; exact q2, by rw [hz']; exact q3, ?_⟩
    rw [hs']
    cases hc : checkB x
    · have : doSR x d = zSn := by unfold doSR; rw [if_pos hc]
      rw [this]; simp [zSn]
    · exact doSR_ts x d ((ok_iff x).1 hc)
  clear hz' hs' hk
  obtain ⟨⟨k0, k1, k2, k3, k4, k5⟩, -⟩ := blc6 HG.out
  have hlg := bl_lt HG.out
  have hbs := HB.out.size
  go_upto_region 6 with fail
  refine wp_cut (fun a wx => ∃ f', a = st 169 f' ∧ f' 1 = .int .i64 n ∧ f' 2 = .slice (some ⟨bb, off, none⟩) xs.length c ∧ f' 3 = v3 ∧ f' 4 = .int .i64 m ∧ f' 5 = .pointer (some ⟨g5, 0, none⟩) ∧ f' 11 = .int .i64 (i : Int) ∧
      ∃ (g1 g2 : Nat) (AW' : Option Addr) (cW' : Nat) (AC' : Option Addr) (cC' : Nat) (AT' : Option Addr) (cT' : Nat) (A' : Option Addr) (c' : Nat), f' 12 = .pointer (some ⟨g1, 0, none⟩) ∧ f' 13 = .pointer (some ⟨g2, 0, none⟩) ∧ f' 14 = .int .i64 k ∧
        Hid (wx.heap[g1]? = some (.cells #[.int .i64 z'.nodes, .int .i64 z'.now, .int .i64 z'.next, .slice AW' z'.way.length cW', .slice AC' z'.cuts.length cC', .slice AT' z'.timers.length cT'] 26 (0, 0))) ∧ Hid (wx.heap[g2]? = some (.cells #[.int .i64 s'.a.k, .int .i64 s'.a.a, .int .i64 s'.a.b, .int .i64 s'.a.n, .string s'.a.data, .int .i64 s'.e, .int .i64 s'.now, .int .i64 s'.l.id, .int .i64 s'.l.fr, .int .i64 s'.l.to, .int .i64 s'.l.rd, .string s'.l.data, .slice A' s'.ts.length c'] 52 (0, 0))) ∧
        Hid (NetO wx wr.heap.size (.agg #[.int .i64 z'.nodes, .int .i64 z'.now, .int .i64 z'.next, .slice AW' z'.way.length cW', .slice AC' z'.cuts.length cC', .slice AT' z'.timers.length cT']) z') ∧ Hid (wr.heap.size ≤ g1) ∧ Hid (Rd wx A' s'.ts) ∧ Hid (Below wr.heap.size wr wx)) ?rest ?first
  case first =>
    intro J K' hJ hK'
    go_region_held3 (fun w' => (∀ (b o : Nat), b < wr.heap.size → w'.cell? ⟨b, o, none⟩ = wr.cell? ⟨b, o, none⟩) ∧ Below wr.heap.size wr w')
      (first | (with_reducible assumption) | (refine keepC ?_; repeat (first | (with_reducible assumption) | exact keepR (by with_reducible assumption) | (with_reducible exact Below.refl _ _) | (with_reducible refine Below.setCell ?_ (by first | exact Nat.le_refl _ | exact Below.size (keepR (by with_reducible assumption)) | exact Nat.le_add_right_of_le (Below.size (keepR (by with_reducible assumption))) | exact Below.size (by with_reducible assumption) | exact Nat.le_add_right_of_le (Below.size (by with_reducible assumption)) | simp) _) | (with_reducible refine below_alloc ?_ _) | (with_reducible refine Below.drew ?_) | exact below_trans (keepR (by with_reducible assumption)) (by with_reducible assumption))))
      ((go_at_call 19; refine (HDO.out _ _ (HVZ.out.below (keepR (by assumption)))).mono ?_; rintro e wd ⟨AWd, cWd, ACd, cCd, ATd, cTd, Ad, cd, rfl, hn, hO, hbd⟩; have hbW : Below wr.heap.size wr wd := below_trans (keepR (by assumption)) hbd; (first | ((with_reducible have hA := bl_below (bl_drew (bl_alloc (bl_new wr (.cells #[.int .i64 0, .int .i64 0, .int .i64 0, .slice none 0 0, .slice none 0 0, .slice none 0 0] 26)) (.cells #[.int .i64 0, .int .i64 0, .int .i64 0, .int .i64 0, .string ⟨#[]⟩, .int .i64 0, .int .i64 0, .int .i64 0, .int .i64 0, .int .i64 0, .int .i64 0, .string ⟨#[]⟩, .slice none 0 0] 52))) hbd); (with_reducible have hB' := bl_below (bl_drew (bl_new2 wr (.cells #[.int .i64 0, .int .i64 0, .int .i64 0, .slice none 0 0, .slice none 0 0, .slice none 0 0] 26) (.cells #[.int .i64 0, .int .i64 0, .int .i64 0, .int .i64 0, .string ⟨#[]⟩, .int .i64 0, .int .i64 0, .int .i64 0, .int .i64 0, .int .i64 0, .int .i64 0, .string ⟨#[]⟩, .slice none 0 0] 52))) hbd); obtain ⟨⟨x0, x1, x2, x3, x4, x5⟩, y0, y1, y2, y3, y4, y5⟩ := blc6 hA; have hlx := bl_lt hA; obtain ⟨⟨p0, p1, p2, p3, p4, p5, p6, p7, p8, p9, p10, p11, p12⟩, r0, r1, r2, r3, r4, r5, r6, r7, r8, r9, r10, r11, r12⟩ := blc13 hB'; have hlp := bl_lt hB') | ((with_reducible have hA := bl_below (bl_drew (bl_alloc (bl_new wr (.cells #[.int .i64 0, .int .i64 0, .int .i64 0, .int .i64 0, .string ⟨#[]⟩, .int .i64 0, .int .i64 0, .int .i64 0, .int .i64 0, .int .i64 0, .int .i64 0, .string ⟨#[]⟩, .slice none 0 0] 52)) (.cells #[.int .i64 0, .int .i64 0, .int .i64 0, .slice none 0 0, .slice none 0 0, .slice none 0 0] 26))) hbd); (with_reducible have hB' := bl_below (bl_drew (bl_new2 wr (.cells #[.int .i64 0, .int .i64 0, .int .i64 0, .int .i64 0, .string ⟨#[]⟩, .int .i64 0, .int .i64 0, .int .i64 0, .int .i64 0, .int .i64 0, .int .i64 0, .string ⟨#[]⟩, .slice none 0 0] 52) (.cells #[.int .i64 0, .int .i64 0, .int .i64 0, .slice none 0 0, .slice none 0 0, .slice none 0 0] 26))) hbd); obtain ⟨⟨p0, p1, p2, p3, p4, p5, p6, p7, p8, p9, p10, p11, p12⟩, r0, r1, r2, r3, r4, r5, r6, r7, r8, r9, r10, r11, r12⟩ := blc13 hA; have hlp := bl_lt hA; obtain ⟨⟨x0, x1, x2, x3, x4, x5⟩, y0, y1, y2, y3, y4, y5⟩ := blc6 hB'; have hlx := bl_lt hB') | ((with_reducible have hA := bl_below (bl_drew (bl_new wr (.cells #[.int .i64 0, .int .i64 0, .int .i64 0, .slice none 0 0, .slice none 0 0, .slice none 0 0] 26))) hbd); obtain ⟨⟨x0, x1, x2, x3, x4, x5⟩, y0, y1, y2, y3, y4, y5⟩ := blc6 hA; have hlx := bl_lt hA) | ((with_reducible have hA := bl_below (bl_drew (bl_new wr (.cells #[.int .i64 0, .int .i64 0, .int .i64 0, .int .i64 0, .string ⟨#[]⟩, .int .i64 0, .int .i64 0, .int .i64 0, .int .i64 0, .int .i64 0, .int .i64 0, .string ⟨#[]⟩, .slice none 0 0] 52))) hbd); obtain ⟨⟨p0, p1, p2, p3, p4, p5, p6, p7, p8, p9, p10, p11, p12⟩, r0, r1, r2, r3, r4, r5, r6, r7, r8, r9, r10, r11, r12⟩ := blc13 hA; have hlp := bl_lt hA) | ((with_reducible have hA := bl_below (bl_alloc (bl_new wr (.cells #[.int .i64 0, .int .i64 0, .int .i64 0, .slice none 0 0, .slice none 0 0, .slice none 0 0] 26)) (.cells #[.int .i64 0, .int .i64 0, .int .i64 0, .int .i64 0, .string ⟨#[]⟩, .int .i64 0, .int .i64 0, .int .i64 0, .int .i64 0, .int .i64 0, .int .i64 0, .string ⟨#[]⟩, .slice none 0 0] 52)) hbd); (with_reducible have hB' := bl_below (bl_new2 wr (.cells #[.int .i64 0, .int .i64 0, .int .i64 0, .slice none 0 0, .slice none 0 0, .slice none 0 0] 26) (.cells #[.int .i64 0, .int .i64 0, .int .i64 0, .int .i64 0, .string ⟨#[]⟩, .int .i64 0, .int .i64 0, .int .i64 0, .int .i64 0, .int .i64 0, .int .i64 0, .string ⟨#[]⟩, .slice none 0 0] 52)) hbd); obtain ⟨⟨x0, x1, x2, x3, x4, x5⟩, y0, y1, y2, y3, y4, y5⟩ := blc6 hA; have hlx := bl_lt hA; obtain ⟨⟨p0, p1, p2, p3, p4, p5, p6, p7, p8, p9, p10, p11, p12⟩, r0, r1, r2, r3, r4, r5, r6, r7, r8, r9, r10, r11, r12⟩ := blc13 hB'; have hlp := bl_lt hB') | ((with_reducible have hA := bl_below (bl_alloc (bl_new wr (.cells #[.int .i64 0, .int .i64 0, .int .i64 0, .int .i64 0, .string ⟨#[]⟩, .int .i64 0, .int .i64 0, .int .i64 0, .int .i64 0, .int .i64 0, .int .i64 0, .string ⟨#[]⟩, .slice none 0 0] 52)) (.cells #[.int .i64 0, .int .i64 0, .int .i64 0, .slice none 0 0, .slice none 0 0, .slice none 0 0] 26)) hbd); (with_reducible have hB' := bl_below (bl_new2 wr (.cells #[.int .i64 0, .int .i64 0, .int .i64 0, .int .i64 0, .string ⟨#[]⟩, .int .i64 0, .int .i64 0, .int .i64 0, .int .i64 0, .int .i64 0, .int .i64 0, .string ⟨#[]⟩, .slice none 0 0] 52) (.cells #[.int .i64 0, .int .i64 0, .int .i64 0, .slice none 0 0, .slice none 0 0, .slice none 0 0] 26)) hbd); obtain ⟨⟨p0, p1, p2, p3, p4, p5, p6, p7, p8, p9, p10, p11, p12⟩, r0, r1, r2, r3, r4, r5, r6, r7, r8, r9, r10, r11, r12⟩ := blc13 hA; have hlp := bl_lt hA; obtain ⟨⟨x0, x1, x2, x3, x4, x5⟩, y0, y1, y2, y3, y4, y5⟩ := blc6 hB'; have hlx := bl_lt hB') | ((with_reducible have hA := bl_below (bl_new wr (.cells #[.int .i64 0, .int .i64 0, .int .i64 0, .slice none 0 0, .slice none 0 0, .slice none 0 0] 26)) hbd); obtain ⟨⟨x0, x1, x2, x3, x4, x5⟩, y0, y1, y2, y3, y4, y5⟩ := blc6 hA; have hlx := bl_lt hA) | ((with_reducible have hA := bl_below (bl_new wr (.cells #[.int .i64 0, .int .i64 0, .int .i64 0, .int .i64 0, .string ⟨#[]⟩, .int .i64 0, .int .i64 0, .int .i64 0, .int .i64 0, .int .i64 0, .int .i64 0, .string ⟨#[]⟩, .slice none 0 0] 52)) hbd); obtain ⟨⟨p0, p1, p2, p3, p4, p5, p6, p7, p8, p9, p10, p11, p12⟩, r0, r1, r2, r3, r4, r5, r6, r7, r8, r9, r10, r11, r12⟩ := blc13 hA; have hlp := bl_lt hA) | skip)))
    all_goals
      have hws : wr.heap.size ≤ wd.heap.size := hbW.size
    · go_wp2
      exact Met.intro (hJ _ _ ⟨_, st_of 169 (by rfl), rfl, rfl, rfl, rfl, rfl, rfl, _, _, AWd, cWd, ACd, cCd, ATd, cTd, Ad, cd, rfl, rfl, rfl, bl_alloc (bl_new _ _) _, bl_new2 _ _ _, (hn.below (below_alloc (below_alloc (Below.refl _ _) _) _)).weaken (by simp <;> omega), hws, Own.rd (hO.below (below_alloc (below_alloc (Below.refl _ _) _) _)), below_alloc (below_alloc hbW _) _⟩)
    · go_wp2
      exact Met.intro (hJ _ _ ⟨_, st_of 169 (by rfl), rfl, rfl, rfl, rfl, rfl, rfl, _, _, AWd, cWd, ACd, cCd, ATd, cTd, Ad, cd, rfl, rfl, rfl, bl_new2 _ _ _, bl_alloc (bl_new _ _) _, (hn.below (below_alloc (below_alloc (Below.refl _ _) _) _)).weaken (by simp <;> omega), Nat.le_add_right_of_le hws, Own.rd (hO.below (below_alloc (below_alloc (Below.refl _ _) _) _)), below_alloc (below_alloc hbW _) _⟩)
    · go_wp2
      exact Met.intro (hJ _ _ ⟨_, st_of 169 (by rfl), rfl, rfl, rfl, rfl, rfl, rfl, _, _, AWd, cWd, ACd, cCd, ATd, cTd, Ad, cd, rfl, rfl, rfl, bl_alloc (bl_all6 hA _ _ _ _ _ _) _, bl_newS (by simp [World.setCell]), ((hn.far6 (by simp) _ _ _ _ _ _).alloc _).weaken (by simp <;> omega), Nat.le_refl _, Own.rd ((own_far6 hO (by simp) _ _ _ _ _ _).alloc _), below_alloc (below_set6 hbW (Nat.le_refl _) _ _ _ _ _ _) _⟩)
    · go_wp2
      exact Met.intro (hJ _ _ ⟨_, st_of 169 (by rfl), rfl, rfl, rfl, rfl, rfl, rfl, _, _, AWd, cWd, ACd, cCd, ATd, cTd, Ad, cd, rfl, rfl, rfl, put13_far (bl_all6 hA _ _ _ _ _ _) (by omega), put13_all (bl_far6 hB' (by omega) _ _ _ _ _ _), (put13_net (hn.far6 (by simp <;> omega) _ _ _ _ _ _) (by simp <;> omega)).weaken (by simp <;> omega), Nat.le_refl _, Own.rd (put13_ownF (own_far6 hO (by simp <;> omega) _ _ _ _ _ _) (by simp <;> omega)), put13_below (below_set6 hbW (Nat.le_refl _) _ _ _ _ _ _) (by omega)⟩)
    · go_wp2
      exact Met.intro (hJ _ _ ⟨_, st_of 169 (by rfl), rfl, rfl, rfl, rfl, rfl, rfl, _, _, AWd, cWd, ACd, cCd, ATd, cTd, Ad, cd, rfl, rfl, rfl, bl_newS (by simp [World.setCell]), bl_alloc (put13_all hA) _, ((put13_net hn (by simp)).alloc _).weaken (by simp <;> omega), hws, Own.rd ((put13_ownF hO (by simp)).alloc _), below_alloc (put13_below hbW (Nat.le_refl _)) _⟩)
    · go_wp2
      exact Met.intro (hJ _ _ ⟨_, st_of 169 (by rfl), rfl, rfl, rfl, rfl, rfl, rfl, _, _, AWd, cWd, ACd, cCd, ATd, cTd, Ad, cd, rfl, rfl, rfl, put13_far (bl_all6 hB' _ _ _ _ _ _) (by omega), put13_all (bl_far6 hA (by omega) _ _ _ _ _ _), (put13_net (hn.far6 (by simp <;> omega) _ _ _ _ _ _) (by simp <;> omega)).weaken (by simp <;> omega), Nat.le_add_right _ _, Own.rd (put13_ownF (own_far6 hO (by simp <;> omega) _ _ _ _ _ _) (by simp <;> omega)), put13_below (below_set6 hbW (Nat.le_add_right _ _) _ _ _ _ _ _) (Nat.le_refl _)⟩)
  case rest =>
    rintro a' wx ⟨f', rfl, h1, h2, h3, h4, h5, h11, g1, g2, AW', cW', AC', cC', AT', cT', A', c', h12, h13, h14, HG1, HG2, HVN, HGE, HTS, HBX⟩
    rw [stp_all, h1, h2, h3, h4, h5, h11, h12, h13, h14]
    clear h1 h2 h3 h4 h5 h11 h12 h13 h14 k0 k1 k2 k3 k4 k5 c0 c1 c2 c3 c4 hbt hlg
    have HBB := Lib.hid (HB.out.trans (HBX.out.mono hbs))
    obtain ⟨bb', off', d', hA', hd', c0, c1, c2, c3, c4⟩ := (HR.out.below HBB.out).ac i hlk
    cases hA'
    obtain rfl : d = d' := Option.some.inj (hd.out.symm.trans hd'.out)
    clear hd'
    have hbt : bb < wx.heap.size := World.block_lt_of_cell? wx _ c0
    obtain ⟨⟨k0, k1, k2, k3, k4, k5⟩, -⟩ := blc6 (bl_below HG.out HBX.out)
    have hlg := bl_lt (bl_below HG.out HBX.out)
    go_upto_region 7 with fail
    refine wp_cut (fun a wy => ∃ f', a = st 169 f' ∧ f' 1 = .int .i64 n ∧ f' 2 = .slice (some ⟨bb, off, none⟩) xs.length c ∧ f' 3 = v3 ∧ f' 4 = .int .i64 m ∧ f' 5 = .pointer (some ⟨g5, 0, none⟩) ∧ f' 11 = .int .i64 (i : Int) ∧ f' 12 = .pointer (some ⟨g1, 0, none⟩) ∧ f' 13 = .pointer (some ⟨g2, 0, none⟩) ∧ f' 14 = .int .i64 k ∧ ∃ (gs : Nat) (AW2 : Option Addr) (cW2 : Nat) (AC2 : Option Addr) (cC2 : Nat) (AT2 : Option Addr) (cT2 : Nat) (AF : Option Addr) (cF : Nat), f' 15 = .pointer (some ⟨gs, 0, none⟩) ∧
      Hid (wy.heap[gs]? = some (.cells #[.int .i64 z'.nodes, .int .i64 z'.now, .int .i64 z'.next, .slice AW2 z'.way.length cW2, .slice AC2 z'.cuts.length cC2, .slice AT2 z'.timers.length cT2, .int .i64 s'.a.k, .int .i64 s'.a.a, .int .i64 s'.a.b, .int .i64 s'.a.n, .string s'.a.data, .int .i64 s'.e, .int .i64 s'.now, .int .i64 s'.l.id, .int .i64 s'.l.fr, .int .i64 s'.l.to, .int .i64 s'.l.rd, .string s'.l.data, .slice AF s'.ts.length cF, .int .i64 k] 56 (0, 0))) ∧ Hid (NetV wy (.agg #[.int .i64 z'.nodes, .int .i64 z'.now, .int .i64 z'.next, .slice AW2 z'.way.length cW2, .slice AC2 z'.cuts.length cC2, .slice AT2 z'.timers.length cT2]) z') ∧ Hid (Rd wy AF s'.ts) ∧ Hid (Below wx.heap.size wx wy)) ?rest ?first
    case first =>
      intro J K' hJ hK'
      refine wp_mixF [0, 1, 2, 3, 4] 5 6 [(6, false)] [(5, false)] 7 (fun w' => Below wx.heap.size wx w')
        (by kernel_rfl) (by kernel_rfl) (by kernel_rfl) (by kernel_rfl) (by kernel_rfl) (by kernel_rfl) (by kernel_rfl) (fun d v c a w h => hQ0 d v c a w h) (Below.refl _ _).drew ?_
      simp only [pick, List.map_cons, List.map_nil, List.getD_cons_zero, List.getD_cons_succ, List.drop_succ_cons, List.drop_zero]
      iterate 5
        apply mix_take
        case hw => rfl
        case hy => intro W hW; obtain ⟨hwc, -⟩ := bcell hW; go_simp; try rfl
        simp only [Act.put, List.setIfInBounds_toArray, List.set_cons_zero, List.set_cons_succ]
      refine mix_nil (fork_do (fun K2 hK2 => ?_) (fun K2 hK2 => ?_))
      · simp only [List.getD_cons_zero, List.getD_cons_succ]
        go_wp2_with fail
        refine (HRD.out _ (HRW.out.below HBB.out).drew (HRC.out.below HBB.out).drew (HRT.out.below HBB.out).drew).mono ?_
        rintro e wd ⟨AW2, cW2, AC2, cC2, AT2, cT2, AF, cF, rfl, hN, hbd⟩
        have hbW : Below wx.heap.size wx wd := below_trans (Below.refl _ wx).drew hbd
        have hsz := hbW.size
        go_wp2
        refine hK2 _ _ hbW ?_
        clear hK2 K2
        refine mix_do fun K2 hK2 => ?_
        go_wp2
        refine hK2 _ _ (below_alloc hbW _) (mix_nil ?_)
        clear hK2 K2
        simp only [List.drop_succ_cons, List.drop_zero]
        have hbZ : ∀ (o : Obj) (cs : Array Value), Below wx.heap.size wx ((wd.alloc o).setRow wd.heap.size cs) := fun o cs => below_setRow (below_alloc hbW _) hsz _
        have hbQ : ∀ (o : Obj) (cs : Array Value), Below w0.heap.size w0 ((wd.alloc o).setRow wd.heap.size cs) := fun o cs => HBB.out.trans ((hbZ o cs).mono HBB.out.size)
        refine wpList_store_row (by rfl) 56 (.tmp 15) (.tmp 67) (by rfl) wd.heap.size _ (by rfl) (by rfl) 56 _ (bl_new _ _) (by exact sizeSeen) (by rfl) (by simp [Value.oneCell']) ?_
        go_wp2
        have hq := fun (o : Obj) (cs : Array Value) => hN _ (newRow_abv (o := o) cs) (HRW.out.below (hbQ o cs)) (HRC.out.below (hbQ o cs)) (HRT.out.below (hbQ o cs))
        exact Met.intro (hJ _ _ ⟨_, st_of 169 (by rfl), rfl, rfl, rfl, rfl, rfl, rfl, rfl, rfl, rfl, wd.heap.size, AW2, cW2, AC2, cC2, AT2, cT2, AF, cF, rfl, setRow_heap _ _ _ _ _ _ (bl_new _ _), (hq _ _).1, (hq _ _).2, hbZ _ _⟩)
      · simp only [List.getD_cons_zero, List.getD_cons_succ]
        go_wp2
        refine hK2 _ _ (below_alloc (Below.refl _ _).drew _) ?_
        clear hK2 K2
        refine mix_do fun K2 hK2 => ?_
        obtain ⟨w1, hw1⟩ : ∃ w1, w1 = World.drew (wx.alloc (.cells #[.int .i64 0, .int .i64 0, .int .i64 0, .slice none 0 0, .slice none 0 0, .slice none 0 0, .int .i64 0, .int .i64 0, .int .i64 0, .int .i64 0, .string ⟨#[]⟩, .int .i64 0, .int .i64 0, .int .i64 0, .int .i64 0, .int .i64 0, .int .i64 0, .string ⟨#[]⟩, .slice none 0 0, .int .i64 0] 56)) := ⟨_, rfl⟩
        rw [← hw1]
        have hb1 : Below wx.heap.size wx w1 := by rw [hw1]; exact (below_alloc (Below.refl _ _) _).drew
        have hz1 : w1.heap[wx.heap.size]? = some (.cells #[.int .i64 0, .int .i64 0, .int .i64 0, .slice none 0 0, .slice none 0 0, .slice none 0 0, .int .i64 0, .int .i64 0, .int .i64 0, .int .i64 0, .string ⟨#[]⟩, .int .i64 0, .int .i64 0, .int .i64 0, .int .i64 0, .int .i64 0, .int .i64 0, .string ⟨#[]⟩, .slice none 0 0, .int .i64 0] 56 (0, 0)) := by rw [hw1]; exact bl_drew (bl_new wx _)
        have hbq1 : Below w0.heap.size w0 w1 := HBB.out.trans (hb1.mono HBB.out.size)
        clear hw1
        go_wp2_with fail
        refine (HRD.out _ (HRW.out.below hbq1) (HRC.out.below hbq1) (HRT.out.below hbq1)).mono ?_
        rintro e wd ⟨AW2, cW2, AC2, cC2, AT2, cT2, AF, cF, rfl, hN, hbd⟩
        have hbW : Below wx.heap.size wx wd := below_trans hb1 hbd
        have hzd := bl_below hz1 hbd
        have hlt1 := bl_lt hz1
        go_wp2
        refine hK2 _ _ hbW (mix_nil ?_)
        clear hK2 K2
        simp only [List.drop_succ_cons, List.drop_zero]
        have hbZ : ∀ (cs : Array Value), Below wx.heap.size wx (wd.setRow wx.heap.size cs) := fun cs => below_setRow hbW (Nat.le_refl _) _
        have hbQ : ∀ (cs : Array Value), Below w0.heap.size w0 (wd.setRow wx.heap.size cs) := fun cs => HBB.out.trans ((hbZ cs).mono HBB.out.size)
        refine wpList_store_row (by rfl) 56 (.tmp 15) (.tmp 67) (by rfl) wx.heap.size _ (by rfl) (by rfl) 56 _ hzd (by exact sizeSeen) (by rfl) (by simp [Value.oneCell']) ?_
        go_wp2
        have hq := fun (cs : Array Value) => hN _ (row_abv cs hlt1) (HRW.out.below (hbQ cs)) (HRC.out.below (hbQ cs)) (HRT.out.below (hbQ cs))
        exact Met.intro (hJ _ _ ⟨_, st_of 169 (by rfl), rfl, rfl, rfl, rfl, rfl, rfl, rfl, rfl, rfl, wx.heap.size, AW2, cW2, AC2, cC2, AT2, cT2, AF, cF, rfl, setRow_heap _ _ _ _ _ _ hzd, (hq _).1, (hq _).2, hbZ _⟩)
    case rest =>
      rintro a' wy ⟨f', rfl, h1, h2, h3, h4, h5, h11, h12, h13, h14, gs, AW2, cW2, AC2, cC2, AT2, cT2, AF, cF, h15, HGS, HNY, HTY, HBY⟩
      rw [stp_all, h1, h2, h3, h4, h5, h11, h12, h13, h14, h15]
      clear h1 h2 h3 h4 h5 h11 h12 h13 h14 h15 k0 k1 k2 k3 k4 k5 c0 c1 c2 c3 c4 hbt hlg
      have HBF := Lib.hid (HBB.out.trans (HBY.out.mono HBB.out.size))
      have HG1Y := Lib.hid (bl_below HG1.out HBY.out)
      have HG2Y := Lib.hid (bl_below HG2.out HBY.out)
      have HV1 := Lib.hid (HVN.out.v.below HBY.out)
      have HT1 := Lib.hid (HTS.out.below HBY.out)
      clear HG1 HG2 HVN HTS HBY HBX HDO HRD HVZ
      obtain ⟨⟨k0, k1, k2, k3, k4, k5⟩, -⟩ := blc6 HG1Y.out
      have hlk1 := bl_lt HG1Y.out
      obtain ⟨⟨p0, p1, p2, p3, p4, p5, p6, p7, p8, p9, p10, p11, p12⟩, -⟩ := blc13 HG2Y.out
      have hlp := bl_lt HG2Y.out
      obtain ⟨⟨d0, d1, d2, d3, d4, d5, d6, d7, d8, d9, d10, d11, d12, d13, d14, d15, d16, d17, d18, d19⟩, -⟩ := blc20 HGS.out
      have hld := bl_lt HGS.out
      have hll := HLL.out
      go_wp2_with fail
      have hs1 := RSame_any z' z' _ _ wy HV1.out HNY.out (by omega) (by omega) (by omega)
      rw [decide_eq_true rfl] at hs1
      refine calls_below hs1 ?_
      intro w8 hb8
      have hg2 := bl_below HG2Y.out hb8
      have hgs := bl_below HGS.out hb8
      clear hs1 k0 k1 k2 k3 k4 k5 hlk1 p0 p1 p2 p3 p4 p5 p6 p7 p8 p9 p10 p11 p12 hlp d0 d1 d2 d3 d4 d5 d6 d7 d8 d9 d10 d11 d12 d13 d14 d15 d16 d17 d18 d19 hld
      obtain ⟨⟨p0, p1, p2, p3, p4, p5, p6, p7, p8, p9, p10, p11, p12⟩, -⟩ := blc13 hg2
      have hlp := bl_lt hg2
      obtain ⟨⟨d0, d1, d2, d3, d4, d5, d6, d7, d8, d9, d10, d11, d12, d13, d14, d15, d16, d17, d18, d19⟩, -⟩ := blc20 hgs
      have hld := bl_lt hgs
      have HB8 := Lib.hid hb8
      clear hg2 hgs hb8
      go_wp2_with fail
      have hs2 := RSameSeen_any s' s' A' AF c' cF w8 (HT1.out.below HB8.out) (HTY.out.below HB8.out) (by omega)
      rw [decide_eq_true rfl] at hs2
      refine calls_below hs2 ?_
      intro w9 hb9
      have HB9 := Lib.hid (below_trans HBF.out (below_trans HB8.out hb9))
      clear hs2 hb9 p0 p1 p2 p3 p4 p5 p6 p7 p8 p9 p10 p11 p12 hlp d0 d1 d2 d3 d4 d5 d6 d7 d8 d9 d10 d11 d12 d13 d14 d15 d16 d17 d18 d19 hld hll
      go_wp2
      refine ⟨⟨_, st_of 169 (by rfl), i + 1, by omega, by omega, rfl, rfl, rfl, rfl, rfl, by show _ = Value.int .i64 _; go_num, HB9⟩, ?_⟩
      show 3 - (intOf (.int .i64 ((i : Int) + 1))).toNat < 3 - i
      simp [intOf]; omega
end Go.Proofs.YthlbmcfliejdiaaGreat
end

section
set_option linter.unusedVariables false
set_option linter.unusedSimpArgs false
namespace Go.Proofs.YthlbmcfliejdiaaGreat
open Go.RowKit

/-! The callees' contracts in one form. -/
theorem zSns (w : World) : Sns w [] [] := ⟨rfl, fun i r s hr _ => by simp at hr⟩
theorem play_lens {n : Int} (h0 : 1 ≤ n) (h16 : n ≤ 16) (xs : List Ac) : ∀ s ∈ playS (newX n) xs, s.ts.length ≤ 10000000 := by
  intro s hs
  obtain ⟨k, hk⟩ := List.getElem?_of_mem hs
  obtain ⟨d, -, -, he⟩ := seen_is (newX_ok h0 h16) hk
  have hy := play_keeps (xs.take k) (newX_ok h0 h16)
  rw [he, ← doSR_ok hy]
  exact Nat.le_trans (doSR_ts _ d hy) (by decide)
theorem playP (n : Int) (xs : List Ac) (hl : xs.length ≤ 1000000) : ∃ (X : Nt) (S : List Sn) (k : Int), (X.way.length ≤ 10000000 ∧ X.cuts.length ≤ 10000000 ∧ X.timers.length ≤ 10000000 ∧ S.length ≤ 10000000 ∧ ∀ s ∈ S, s.ts.length ≤ 10000000) ∧
    (∀ (A : Option Addr) (c : Nat) (w : World), Rd w A xs → Calls Tryz.prog 22 #[.int .i64 n, .slice A xs.length c] w fun e w' => ∃ AW cW AC cC AT cT Au cu rs, e = .returned (.tuple #[.agg #[.int .i64 X.nodes, .int .i64 X.now, .int .i64 X.next, .slice AW X.way.length cW, .slice AC X.cuts.length cC, .slice AT X.timers.length cT], .slice Au S.length cu, .int .i64 k]) ∧ NetV w' (.agg #[.int .i64 X.nodes, .int .i64 X.now, .int .i64 X.next, .slice AW X.way.length cW, .slice AC X.cuts.length cC, .slice AT X.timers.length cT]) X ∧ Rd w' Au rs ∧ Sns w' rs S ∧ Below w.heap.size w w') ∧
    (∀ (A : Option Addr) (c : Nat) (w : World), Rd w A xs → Calls Tryz.prog 23 #[.int .i64 n, .slice A xs.length c] w fun e w' => ∃ AW cW AC cC AT cT Au cu rs, e = .returned (.agg #[.int .i64 X.nodes, .int .i64 X.now, .int .i64 X.next, .slice AW X.way.length cW, .slice AC X.cuts.length cC, .slice AT X.timers.length cT, .slice Au S.length cu, .int .i64 k]) ∧ NetV w' (.agg #[.int .i64 X.nodes, .int .i64 X.now, .int .i64 X.next, .slice AW X.way.length cW, .slice AC X.cuts.length cC, .slice AT X.timers.length cT]) X ∧ Rd w' Au rs ∧ Sns w' rs S ∧ Below w.heap.size w w') := by
  by_cases h : n < 1 ∨ 16 < n
  · refine ⟨zNt, [], 1, ⟨by simp [zNt], by simp [zNt], by simp [zNt], by simp, by simp⟩, fun A c w hR => (Play_bad n _ w h).mono fun e w' he => ?_, fun A c w hR => (RPlay_bad n _ w h).mono fun e w' he => ?_⟩
    · exact ⟨none, 0, none, 0, none, 0, none, 0, [], he.1, zNetV_is w', Rd.nil _ _, zSns w', he.2⟩
    · exact ⟨none, 0, none, 0, none, 0, none, 0, [], he.1, zNetV_is w', Rd.nil _ _, zSns w', he.2⟩
  · have h0 : 1 ≤ n := by omega
    have h16 : n ≤ 16 := by omega
    have hk := len_ok (play_keeps xs (newX_ok h0 h16))
    refine ⟨playX (newX n) xs, playS (newX n) xs, 0, ⟨by omega, by omega, by omega, by rw [playS_length]; omega, play_lens h0 h16 xs⟩, fun A c w hR => (Play_good n xs A c w h0 h16 hR hl).mono fun e w' he => ?_, fun A c w hR => (RPlay_good n xs A c w h0 h16 hR hl).mono fun e w' he => ?_⟩
    · obtain ⟨v, u, rs, rfl, ⟨AW, cW, AC, cC, AT, cT, rfl, g1, g2, g3⟩, hu, hs, hb⟩ := he
      obtain ⟨Au, cu, rfl, -, hr⟩ := hu.slice
      rw [hs.1]
      exact ⟨AW, cW, AC, cC, AT, cT, Au, cu, rs, rfl, ⟨AW, cW, AC, cC, AT, cT, rfl, g1.rd, g2.rd, g3.rd⟩, hr, hs.is, hb⟩
    · obtain ⟨AW, cW, AC, cC, AT, cT, u, rs, rfl, ⟨AW', cW', AC', cC', AT', cT', he', g1, g2, g3⟩, hu, hs, hb⟩ := he
      obtain ⟨Au, cu, rfl, -, hr⟩ := hu.slice
      rw [hs.1]
      exact ⟨AW, cW, AC, cC, AT, cT, Au, cu, rs, rfl, ⟨AW', cW', AC', cC', AT', cT', he', g1.rd, g2.rd, g3.rd⟩, hr, hs.is, hb⟩
theorem auditP (n : Int) (xs : List Sn) (hl : xs.length ≤ 1000000) : ∃ (p q : Int),
    (∀ (A : Option Addr) (c : Nat) (rs : List SnR) (w : World), Rd w A rs → Sns w rs xs → Calls Tryz.prog 25 #[.int .i64 n, .slice A xs.length c] w fun e w' => e = .returned (.tuple #[.int .i64 p, .int .i64 q]) ∧ Below w.heap.size w w') ∧
    (∀ (A : Option Addr) (c : Nat) (rs : List SnR) (w : World), Rd w A rs → Sns w rs xs → Calls Tryz.prog 26 #[.int .i64 n, .slice A xs.length c] w fun e w' => e = .returned (.agg #[.int .i64 p, .int .i64 q]) ∧ Below w.heap.size w w') := by
  by_cases h : n < 1 ∨ 16 < n
  · exact ⟨1, 0, fun A c rs w hR hS => Audit_bad n _ w h, fun A c rs w hR hS => RAudit_bad n _ w h⟩
  · exact ⟨_, _, fun A c rs w hR hS => Audit_good n xs rs A c w (by omega) (by omega) hR hS hl, fun A c rs w hR hS => RAudit_good n xs rs A c w (by omega) (by omega) hR hS hl⟩
theorem calm_lens (x : Nt) (n : Int) : (calmRX x n).way.length ≤ 1000 ∧ (calmRX x n).cuts.length ≤ 1000 ∧ (calmRX x n).timers.length ≤ 1000 ∧ (calmRL x n).length ≤ 1000 ∧ (calmRT x n).length ≤ 1000 := by
  by_cases h : calmE x n = 0
  · unfold calmRX calmRL calmRT
    rw [if_pos h, if_pos h, if_pos h]
    have hc : checkB x = true := by
      cases hc : checkB x
      · unfold calmE at h; rw [if_pos hc] at h; cases h
      · rfl
    have hx := (ok_iff x).1 hc
    have hnc : ¬ checkB x = false := by rw [hc]; decide
    unfold calmE at h
    rw [if_neg hnc] at h
    split at h
    · cases h
    rename_i h1
    split at h
    · cases h
    rename_i h2
    have hlim : (noCut x).now + (n.toNat : Int) ≤ 1099511627776 := by show x.now + (n.toNat : Int) ≤ _; omega
    have hca := (calm_at (nocut_ok hx) n.toNat hlim).1
    have hpl := (calm_perm (nocut_ok hx) n.toNat hlim).length_eq
    have hpt := (calm_tperm (nocut_ok hx) n.toNat hlim).1.length_eq
    have e1 : (noCut x).way.length = x.way.length := rfl
    have e2 : (noCut x).timers.length = x.timers.length := rfl
    have g1 := hx.way
    have g2 := hx.tms
    have g3 := len_ok hca
    rw [List.length_append] at hpl hpt
    refine ⟨?_, ?_, ?_, ?_, ?_⟩ <;> omega
  · unfold calmRX calmRL calmRT
    rw [if_neg h, if_neg h, if_neg h]
    simp [zNt]
set_option maxHeartbeats 8000000 in
set_option maxRecDepth 100000 in
theorem NetPlays_any (x : Nt) (n : Int) (xs : List Ac) (A2 : Option Addr) (c2 : Nat) (log : List Sn) (rl : List SnR) (A3 : Option Addr) (c3 : Nat) (m : Int) (v : Value) (w : World) (hV : NetC w v x) (hR : Rd w A2 xs) (hG : Rd w A3 rl) (hSG : Sns w rl log) (hlw : x.way.length ≤ 9223372036854775807) (hlc : x.cuts.length ≤ 9223372036854775807) (hlt : x.timers.length ≤ 9223372036854775807) (hlx : xs.length ≤ 9223372036854775807) (hlg : log.length ≤ 9223372036854775807) :
    Calls Tryz.prog 4 #[v, .int .i64 n, .slice A2 xs.length c2, .slice A3 log.length c3, .int .i64 m] w fun e w' => e = .returned (.bool true) ∧ Below w.heap.size w w' := by
  obtain ⟨AW, cW, AC, cC, AT, cT, rfl, hW, hC, hT, hcap⟩ := hV
  have HV : Hid (∀ W, Below w.heap.size w W → NetV W (.agg #[.int .i64 x.nodes, .int .i64 x.now, .int .i64 x.next, .slice AW x.way.length cW, .slice AC x.cuts.length cC, .slice AT x.timers.length cT]) x) := fun W hb => ⟨AW, cW, AC, cC, AT, cT, rfl, hW.below hb, hC.below hb, hT.below hb⟩
  have HW := Lib.hid hW
  have HC := Lib.hid hC
  have HT := Lib.hid hT
  have HR := Lib.hid hR
  have HG := Lib.hid hG
  have HSG := Lib.hid hSG
  have hsm := fun (v : Value) (w : World) (hV : NetV w v x) => small_any x v w hV hlw hlc hlt
  have hfw := fun (w : World) (hR : Rd w A2 xs) => few_any A2 c2 xs 300 w hR hlx
  obtain ⟨w0, hw0⟩ : ∃ w0, w0 = w.alloc (.cells #[.int .i64 x.nodes, .int .i64 x.now, .int .i64 x.next, .slice AW x.way.length cW, .slice AC x.cuts.length cC, .slice AT x.timers.length cT] 26) := ⟨_, rfl⟩
  have HB0 : Hid (Below w.heap.size w w0) := by rw [hw0]; exact below_alloc (Below.refl _ _) _
  have HZ0 : Hid (w0.heap[w.heap.size]? = some (.cells #[.int .i64 x.nodes, .int .i64 x.now, .int .i64 x.next, .slice AW x.way.length cW, .slice AC x.cuts.length cC, .slice AT x.timers.length cT] 26 (0, 0))) := by rw [hw0]; exact bl_new _ _
  have HW0 := Lib.hid hw0
  clear hw0 hW hC hT hR hG hSG
  by_cases hgo : smallB x = true ∧ fewB xs 300 = true ∧ log.length ≤ 300
  rotate_left 1
  · have ways : smallB x = false ∨ (smallB x = true ∧ fewB xs 300 = false) ∨ (smallB x = true ∧ fewB xs 300 = true ∧ 300 < log.length) := by
      cases h1 : smallB x
      · exact .inl rfl
      · cases h2 : fewB xs 300
        · exact .inr (.inl ⟨rfl, rfl⟩)
        · exact .inr (.inr ⟨rfl, rfl, by rw [h1, h2] at hgo; simp at hgo; omega⟩)
    clear hgo
    rcases ways with h1 | ⟨h1, h2⟩ | ⟨h1, h2, h3⟩
    · rw [h1] at hsm
      have HS := Lib.hid hsm
      clear hsm hfw h1
      go_enter Tryz.func4, Tryz.ntmps4
      go_wp2_with (first
        | (go_at_call 5; rw [← HW0.out]; refine calls_below (HS.out _ _ (HV.out _ HB0.out)) ?_; intro w1 hb1)
        | (go_at_call 6; refine calls_below (sane_any _) ?_; intro w2 hb2))
      go_ret
      exact ⟨rfl, below_trans HB0.out (below_trans hb1 hb2)⟩
    · rw [h1] at hsm
      rw [h2] at hfw
      have HS := Lib.hid hsm
      have HF := Lib.hid hfw
      clear hsm hfw h1 h2
      go_enter Tryz.func4, Tryz.ntmps4
      go_wp2_with (first
        | (go_at_call 5; rw [← HW0.out]; refine calls_below (HS.out _ _ (HV.out _ HB0.out)) ?_; intro w1 hb1)
        | (go_at_call 18; refine calls_below (HF.out _ (HR.out.below (below_trans HB0.out hb1))) ?_; intro w3 hb3)
        | (go_at_call 6; refine calls_below (sane_any _) ?_; intro w2 hb2))
      go_ret
      exact ⟨rfl, below_trans HB0.out (below_trans hb1 (below_trans hb3 hb2))⟩
    · rw [h1] at hsm
      rw [h2] at hfw
      have HS := Lib.hid hsm
      have HF := Lib.hid hfw
      have d3 : decide ((300 : Int) < (log.length : Int)) = true := decide_eq_true (by omega)
      clear hsm hfw h1 h2 h3
      go_enter Tryz.func4, Tryz.ntmps4
      go_wp2_with (first
        | (go_at_call 5; rw [← HW0.out]; refine calls_below (HS.out _ _ (HV.out _ HB0.out)) ?_; intro w1 hb1)
        | (go_at_call 18; refine calls_below (HF.out _ (HR.out.below (below_trans HB0.out hb1))) ?_; intro w3 hb3)
        | (go_at_call 6; refine calls_below (sane_any _) ?_; intro w2 hb2))
      go_ret
      exact ⟨rfl, below_trans HB0.out (below_trans hb1 (below_trans hb3 hb2))⟩
  obtain ⟨hs, hf, hlog⟩ := hgo
  rw [hs] at hsm
  rw [hf] at hfw
  obtain ⟨l1, l2, l3⟩ := small_lens hs
  have l4 : xs.length ≤ 300 := by
    unfold fewB at hf
    simp only [Bool.and_eq_true, decide_eq_true_eq] at hf
    omega
  have HS := Lib.hid hsm
  have HF := Lib.hid hfw
  have d3 : decide ((300 : Int) < (log.length : Int)) = false := decide_eq_false (by omega)
  obtain ⟨X, S, k, hXL, hp, hq⟩ := playP n xs (by omega)
  have HP := Lib.hid hp
  have HQ := Lib.hid hq
  have HXL := Lib.hid hXL
  obtain ⟨e1, e2, ha, hra⟩ := auditP n log (by omega)
  have HA := Lib.hid ha
  have HRA := Lib.hid hra
  have hc := fun (v : Value) (w : World) (hV : NetV w v x) => Calm_any x m v w (by omega) (by omega) (by omega) hV
  have hrc := fun (w : World) (hW : Rd w AW x.way) (hC : Rd w AC x.cuts) (hT : Rd w AT x.timers) => RCalm_any x w AW AC AT cW cC cT m hW hC hT hcap (by omega) (by omega) (by omega)
  have hcl := calm_lens x m
  obtain ⟨cx, hcx⟩ : ∃ z, z = calmRX x m := ⟨_, rfl⟩
  obtain ⟨cl, hcll⟩ : ∃ z, z = calmRL x m := ⟨_, rfl⟩
  obtain ⟨ct, hct⟩ : ∃ z, z = calmRT x m := ⟨_, rfl⟩
  obtain ⟨ce, hce⟩ : ∃ z, z = calmE x m := ⟨_, rfl⟩
  unfold clmQ at hc
  rw [← hcx, ← hcll, ← hct, ← hce] at hc hrc
  rw [← hcx, ← hcll, ← hct] at hcl
  have HCM := Lib.hid hc
  have HRC := Lib.hid hrc
  have HCL := Lib.hid hcl
  clear hsm hfw hs hf hp hq ha hra hc hrc hcl hcx hcll hct hce hXL hlw hlc hlt hlx hlg
  go_enter Tryz.func4, Tryz.ntmps4
  go_wp2_with fail
  rw [← HW0.out]
  clear HW0
  refine calls_below (HS.out _ _ (HV.out _ HB0.out)) ?_
  intro w1 hb1
  go_wp2_with fail
  refine calls_below (HF.out _ (HR.out.below (below_trans HB0.out hb1))) ?_
  intro w2 hb2
  have HB2 := Lib.hid (below_trans HB0.out (below_trans hb1 hb2))
  have HG2 := Lib.hid (bl_below HZ0.out (below_trans hb1 hb2))
  clear hb1 hb2 HS HF HZ0 HB0
  go_wp2
  refine wp_st 169 (by rfl) fun f0 hf0 => ?_
  refine wp_loop (plI xs (.int .i64 n) (.slice A2 xs.length c2) (.slice A3 log.length c3) (.int .i64 m) w.heap.size w2) plMu ⟨f0, rfl, 0, Nat.zero_le _, Nat.zero_le _, (hf0 1).trans rfl, (hf0 2).trans rfl, (hf0 3).trans rfl, (hf0 4).trans rfl, (hf0 5).trans rfl, (hf0 11).trans rfl, Below.refl _ _⟩ ?_
  clear hf0 f0
  rintro a wr ⟨f, rfl, i, hi, hi3, h1, h2, h3, h4, h5, h11, HB⟩
  by_cases hlk : i < xs.length ∧ i < 3
  · exact pl_round xs A2 c2 n m _ w.heap.size w2 wr f _ i AW AC AT cW cC cT x (by omega) hlk.1 hlk.2 (HR.out.below HB2.out) (HW.out.below HB2.out) (HC.out.below HB2.out) (HT.out.below HB2.out) hcap (by omega) (by omega) (by omega) HG2 h1 h2 h3 h4 h5 h11 HB (fun d _ _ _ _ h => by cases d <;> exact h)
  have hways : (¬ i < xs.length ∧ decide (i < xs.length) = false) ∨ (i < xs.length ∧ decide (i < xs.length) = true ∧ ¬ i < 3 ∧ decide (i < 3) = false) := by
    by_cases h : i < xs.length
    · exact .inr ⟨h, decide_eq_true h, by omega, decide_eq_false (by omega)⟩
    · exact .inl ⟨h, decide_eq_false h⟩
  have HBR := Lib.hid (below_trans HB2.out HB.out)
  have HGX := Lib.hid (bl_below HG2.out HB.out)
  rw [stp_all, h1, h2, h3, h4, h5, h11]
  clear h1 h2 h3 h4 h5 h11 hlk HB HG2 HB2 hi hi3
  have HXB := Lib.hid HXL.out
  have hxl := HXL.out
  have hcl := HCL.out
  rcases hways with ⟨q1, q2⟩ | ⟨q1, q2, q3, q4⟩
  all_goals
    go_wp2_with fail
    refine (HP.out A2 c2 _ (HR.out.below HBR.out)).mono ?_
    rintro e wa ⟨AWa, cWa, ACa, cCa, ATa, cTa, Aua, cua, rsa, rfl, hVa, hRa, hSa, hba⟩
    have HBA := Lib.hid (below_trans HBR.out hba)
    have HVA := Lib.hid (hVa.below (below_alloc (Below.refl _ wa) (.cells #[.int .i64 X.nodes, .int .i64 X.now, .int .i64 X.next, .slice AWa X.way.length cWa, .slice ACa X.cuts.length cCa, .slice ATa X.timers.length cTa] 26)))
    have HRA' := Lib.hid (hRa.below (below_alloc (Below.refl _ wa) (.cells #[.int .i64 X.nodes, .int .i64 X.now, .int .i64 X.next, .slice AWa X.way.length cWa, .slice ACa X.cuts.length cCa, .slice ATa X.timers.length cTa] 26)))
    have HSA := Lib.hid (hSa.below (below_alloc (Below.refl _ wa) (.cells #[.int .i64 X.nodes, .int .i64 X.now, .int .i64 X.next, .slice AWa X.way.length cWa, .slice ACa X.cuts.length cCa, .slice ATa X.timers.length cTa] 26)))
    have HBA2 := Lib.hid (below_alloc HBA.out (.cells #[.int .i64 X.nodes, .int .i64 X.now, .int .i64 X.next, .slice AWa X.way.length cWa, .slice ACa X.cuts.length cCa, .slice ATa X.timers.length cTa] 26))
    have HGA := Lib.hid (bl_new wa (.cells #[.int .i64 X.nodes, .int .i64 X.now, .int .i64 X.next, .slice AWa X.way.length cWa, .slice ACa X.cuts.length cCa, .slice ATa X.timers.length cTa] 26))
    have HGX2 := Lib.hid (bl_alloc (bl_below HGX.out hba) (.cells #[.int .i64 X.nodes, .int .i64 X.now, .int .i64 X.next, .slice AWa X.way.length cWa, .slice ACa X.cuts.length cCa, .slice ATa X.timers.length cTa] 26))
    clear hVa hRa hSa hba
    go_wp2_with fail
    obtain ⟨wb, hwb⟩ : ∃ wb, wb = wa.alloc (.cells #[.int .i64 X.nodes, .int .i64 X.now, .int .i64 X.next, .slice AWa X.way.length cWa, .slice ACa X.cuts.length cCa, .slice ATa X.timers.length cTa] 26) := ⟨_, rfl⟩
    obtain ⟨ga, hga⟩ : ∃ ga, ga = wa.heap.size := ⟨_, rfl⟩
    rw [← hwb] at HVA HRA' HSA HBA2 HGA HGX2
    rw [← hga] at HGA
    rw [← hwb, ← hga]
    clear hwb hga HBA
    refine (HQ.out A2 c2 _ (HR.out.below HBA2.out)).mono ?_
    rintro e wc ⟨AWb, cWb, ACb, cCb, ATb, cTb, Aub, cub, rsb, rfl, hVb, hRb, hSb, hbb⟩
    have hal := below_alloc hbb (.cells #[.int .i64 X.nodes, .int .i64 X.now, .int .i64 X.next, .slice AWb X.way.length cWb, .slice ACb X.cuts.length cCb, .slice ATb X.timers.length cTb, .slice Aub S.length cub, .int .i64 k] 62)
    have HVB := Lib.hid (hVb.below (below_alloc (Below.refl _ wc) (.cells #[.int .i64 X.nodes, .int .i64 X.now, .int .i64 X.next, .slice AWb X.way.length cWb, .slice ACb X.cuts.length cCb, .slice ATb X.timers.length cTb, .slice Aub S.length cub, .int .i64 k] 62)))
    have HRB := Lib.hid (hRb.below (below_alloc (Below.refl _ wc) (.cells #[.int .i64 X.nodes, .int .i64 X.now, .int .i64 X.next, .slice AWb X.way.length cWb, .slice ACb X.cuts.length cCb, .slice ATb X.timers.length cTb, .slice Aub S.length cub, .int .i64 k] 62)))
    have HSB := Lib.hid (hSb.below (below_alloc (Below.refl _ wc) (.cells #[.int .i64 X.nodes, .int .i64 X.now, .int .i64 X.next, .slice AWb X.way.length cWb, .slice ACb X.cuts.length cCb, .slice ATb X.timers.length cTb, .slice Aub S.length cub, .int .i64 k] 62)))
    have HVA3 := Lib.hid (HVA.out.below hal)
    have HRA3 := Lib.hid (HRA'.out.below hal)
    have HSA3 := Lib.hid (HSA.out.below hal)
    have HB3 := Lib.hid (below_trans HBA2.out hal)
    have HGA3 := Lib.hid (bl_below HGA.out hal)
    have HGX3 := Lib.hid (bl_below HGX2.out hal)
    have HGB3 := Lib.hid (bl_new wc (.cells #[.int .i64 X.nodes, .int .i64 X.now, .int .i64 X.next, .slice AWb X.way.length cWb, .slice ACb X.cuts.length cCb, .slice ATb X.timers.length cTb, .slice Aub S.length cub, .int .i64 k] 62))
    clear hVb hRb hSb hbb hal HVA HRA' HSA HBA2 HGA HGX2
    go_upto_region 12 with fail
    obtain ⟨wd, hwd⟩ : ∃ wd, wd = wc.alloc (.cells #[.int .i64 X.nodes, .int .i64 X.now, .int .i64 X.next, .slice AWb X.way.length cWb, .slice ACb X.cuts.length cCb, .slice ATb X.timers.length cTb, .slice Aub S.length cub, .int .i64 k] 62) := ⟨_, rfl⟩
    obtain ⟨gb, hgb⟩ : ∃ gb, gb = wc.heap.size := ⟨_, rfl⟩
    rw [← hwd] at HVB HRB HSB HVA3 HRA3 HSA3 HB3 HGA3 HGX3 HGB3
    rw [← hgb] at HGB3
    rw [← hwd, ← hgb]
    clear hwd hgb
    obtain ⟨⟨k0, k1, k2, k3, k4, k5⟩, -⟩ := blc6 HGA3.out
    have hlk := bl_lt HGA3.out
    obtain ⟨⟨p0, p1, p2, p3, p4, p5, p6, p7⟩, -⟩ := blc8 HGB3.out
    have hlp := bl_lt HGB3.out
    go_wp2_with fail
    have hs1 := RSame_any X X _ _ wd HVA3.out HVB.out hxl.1 hxl.2.1 hxl.2.2.1
    rw [decide_eq_true rfl] at hs1
    refine calls_below hs1 ?_
    intro we hbe
    have HRA4 := Lib.hid (HRA3.out.below hbe)
    have HSA4 := Lib.hid (HSA3.out.below hbe)
    have HRB4 := Lib.hid (HRB.out.below hbe)
    have HSB4 := Lib.hid (HSB.out.below hbe)
    have HB4 := Lib.hid (below_trans HB3.out hbe)
    have HGX4 := Lib.hid (bl_below HGX3.out hbe)
    have hgb4 := bl_below HGB3.out hbe
    clear hs1 hbe k0 k1 k2 k3 k4 k5 hlk p0 p1 p2 p3 p4 p5 p6 p7 hlp HVA3 HVB HRA3 HSA3 HRB HSB HB3 HGA3 HGX3 HGB3
    obtain ⟨⟨p0, p1, p2, p3, p4, p5, p6, p7⟩, -⟩ := blc8 hgb4
    have hlp := bl_lt hgb4
    clear hgb4
    go_wp2_with fail
    have hs2 := RSameLog_any Aua Aub cua cub rsa rsb S S we HRA4.out HRB4.out HSA4.out HSB4.out hxl.2.2.2.1 hxl.2.2.2.2
    rw [decide_eq_true rfl] at hs2
    refine calls_below hs2 ?_
    intro wf hbf
    have HB5 := Lib.hid (below_trans HB4.out hbf)
    have HGX5 := Lib.hid (bl_below HGX4.out hbf)
    clear hs2 hbf p0 p1 p2 p3 p4 p5 p6 p7 hlp HRA4 HSA4 HRB4 HSB4 HB4 HGX4
    go_wp2_with fail
    refine calls_below (HA.out A3 c3 rl _ (HG.out.below HB5.out) (HSG.out.below HB5.out)) ?_
    intro wg hbg
    have HB6 := Lib.hid (below_trans HB5.out hbg)
    have HGX6 := Lib.hid (bl_below HGX5.out hbg)
    clear hbg HB5 HGX5
    go_wp2_with fail
    refine calls_below (HRA.out A3 c3 rl _ (HG.out.below HB6.out) (HSG.out.below HB6.out)) ?_
    intro wh hbh
    have HB7 := Lib.hid (below_alloc (below_trans HB6.out hbh) (.cells #[.int .i64 e1, .int .i64 e2] 68))
    have HGX7 := Lib.hid (bl_alloc (bl_below HGX6.out hbh) (.cells #[.int .i64 e1, .int .i64 e2] 68))
    clear hbh HB6 HGX6
    go_upto_region 18 with fail
    obtain ⟨wi, hwi⟩ : ∃ wi, wi = wh.alloc (.cells #[.int .i64 e1, .int .i64 e2] 68) := ⟨_, rfl⟩
    rw [← hwi] at HB7 HGX7
    rw [← hwi]
    clear hwi
    obtain ⟨⟨k0, k1, k2, k3, k4, k5⟩, -⟩ := blc6 HGX7.out
    have hlk := bl_lt HGX7.out
    go_wp2_with fail
    refine (HCM.out _ _ (HV.out _ HB7.out)).mono ?_
    rintro e wj ⟨vj, uj, tj, rfl, ⟨AWj, cWj, ACj, cCj, ATj, cTj, rfl, j1, j2, j3⟩, hu, ht, hbj⟩
    obtain ⟨Al, ncl, rfl, -, hrl⟩ := hu.slice
    obtain ⟨At, nct, rfl, -, hrt⟩ := ht.slice
    have hal := below_alloc hbj (.cells #[.int .i64 cx.nodes, .int .i64 cx.now, .int .i64 cx.next, .slice AWj cx.way.length cWj, .slice ACj cx.cuts.length cCj, .slice ATj cx.timers.length cTj] 26)
    have hal1 := below_alloc (Below.refl _ wj) (.cells #[.int .i64 cx.nodes, .int .i64 cx.now, .int .i64 cx.next, .slice AWj cx.way.length cWj, .slice ACj cx.cuts.length cCj, .slice ATj cx.timers.length cTj] 26)
    have HVJ : Hid (NetV (wj.alloc (.cells #[.int .i64 cx.nodes, .int .i64 cx.now, .int .i64 cx.next, .slice AWj cx.way.length cWj, .slice ACj cx.cuts.length cCj, .slice ATj cx.timers.length cTj] 26)) (.agg #[.int .i64 cx.nodes, .int .i64 cx.now, .int .i64 cx.next, .slice AWj cx.way.length cWj, .slice ACj cx.cuts.length cCj, .slice ATj cx.timers.length cTj]) cx) := ⟨AWj, cWj, ACj, cCj, ATj, cTj, rfl, j1.rd.below hal1, j2.rd.below hal1, j3.rd.below hal1⟩
    have HLJ := Lib.hid (hrl.below hal1)
    have HTJ := Lib.hid (hrt.below hal1)
    have HB8 := Lib.hid (below_trans HB7.out hal)
    have HGX8 := Lib.hid (bl_below HGX7.out hal)
    have HGJ := Lib.hid (bl_new wj (.cells #[.int .i64 cx.nodes, .int .i64 cx.now, .int .i64 cx.next, .slice AWj cx.way.length cWj, .slice ACj cx.cuts.length cCj, .slice ATj cx.timers.length cTj] 26))
    clear hu ht hrl hrt j1 j2 j3 hal hal1 hbj k0 k1 k2 k3 k4 k5 hlk HB7 HGX7
    go_upto_region 19 with fail
    obtain ⟨wk, hwk⟩ : ∃ wk, wk = wj.alloc (.cells #[.int .i64 cx.nodes, .int .i64 cx.now, .int .i64 cx.next, .slice AWj cx.way.length cWj, .slice ACj cx.cuts.length cCj, .slice ATj cx.timers.length cTj] 26) := ⟨_, rfl⟩
    obtain ⟨gj, hgj⟩ : ∃ gj, gj = wj.heap.size := ⟨_, rfl⟩
    rw [← hwk] at HVJ HLJ HTJ HB8 HGX8 HGJ
    rw [← hgj] at HGJ
    rw [← hwk, ← hgj]
    clear hwk hgj
    obtain ⟨⟨k0, k1, k2, k3, k4, k5⟩, -⟩ := blc6 HGX8.out
    have hlk := bl_lt HGX8.out
    go_wp2_with fail
    refine (HRC.out _ (HW.out.below HB8.out) (HC.out.below HB8.out) (HT.out.below HB8.out)).mono ?_
    rintro e wl ⟨AWd, cWd, ACd, cCd, ATd, cTd, ud, vd, rfl, hVd, hu, ht, hbl⟩
    obtain ⟨Al2, ncl2, rfl, -, hrl⟩ := hu.slice
    obtain ⟨At2, nct2, rfl, -, hrt⟩ := ht.slice
    have hal := below_alloc hbl (.cells #[.int .i64 cx.nodes, .int .i64 cx.now, .int .i64 cx.next, .slice AWd cx.way.length cWd, .slice ACd cx.cuts.length cCd, .slice ATd cx.timers.length cTd, .slice Al2 cl.length ncl2, .slice At2 ct.length nct2, .int .i64 ce] 73)
    have hal1 := below_alloc (Below.refl _ wl) (.cells #[.int .i64 cx.nodes, .int .i64 cx.now, .int .i64 cx.next, .slice AWd cx.way.length cWd, .slice ACd cx.cuts.length cCd, .slice ATd cx.timers.length cTd, .slice Al2 cl.length ncl2, .slice At2 ct.length nct2, .int .i64 ce] 73)
    have HVD := Lib.hid (hVd.below hal1)
    have HLD := Lib.hid (hrl.below hal1)
    have HTD := Lib.hid (hrt.below hal1)
    have HVJ2 := Lib.hid (HVJ.out.below hal)
    have HLJ2 := Lib.hid (HLJ.out.below hal)
    have HTJ2 := Lib.hid (HTJ.out.below hal)
    have HGJ2 := Lib.hid (bl_below HGJ.out hal)
    have HB9 := Lib.hid (below_trans HB8.out hal)
    have HGD := Lib.hid (bl_new wl (.cells #[.int .i64 cx.nodes, .int .i64 cx.now, .int .i64 cx.next, .slice AWd cx.way.length cWd, .slice ACd cx.cuts.length cCd, .slice ATd cx.timers.length cTd, .slice Al2 cl.length ncl2, .slice At2 ct.length nct2, .int .i64 ce] 73))
    clear hVd hu ht hrl hrt hal hal1 hbl k0 k1 k2 k3 k4 k5 hlk HVJ HLJ HTJ HGJ HB8 HGX8
    go_upto_region 20 with fail
    obtain ⟨wm, hwm⟩ : ∃ wm, wm = wl.alloc (.cells #[.int .i64 cx.nodes, .int .i64 cx.now, .int .i64 cx.next, .slice AWd cx.way.length cWd, .slice ACd cx.cuts.length cCd, .slice ATd cx.timers.length cTd, .slice Al2 cl.length ncl2, .slice At2 ct.length nct2, .int .i64 ce] 73) := ⟨_, rfl⟩
    obtain ⟨gd, hgd⟩ : ∃ gd, gd = wl.heap.size := ⟨_, rfl⟩
    rw [← hwm] at HVD HLD HTD HVJ2 HLJ2 HTJ2 HGJ2 HB9 HGD
    rw [← hgd] at HGD
    rw [← hwm, ← hgd]
    clear hwm hgd
    go_wp2_with fail
    refine calls_below (sane_any _) ?_
    intro wn hbn
    have HB10 := Lib.hid (below_trans HB9.out hbn)
    have HVD3 := Lib.hid (HVD.out.below hbn)
    have HLD3 := Lib.hid (HLD.out.below hbn)
    have HTD3 := Lib.hid (HTD.out.below hbn)
    have HVJ3 := Lib.hid (HVJ2.out.below hbn)
    have HLJ3 := Lib.hid (HLJ2.out.below hbn)
    have HTJ3 := Lib.hid (HTJ2.out.below hbn)
    have HGJ3 := Lib.hid (bl_below HGJ2.out hbn)
    have HGD3 := Lib.hid (bl_below HGD.out hbn)
    clear hbn HB9 HVD HLD HTD HVJ2 HLJ2 HTJ2 HGJ2 HGD
    obtain ⟨⟨k0, k1, k2, k3, k4, k5⟩, -⟩ := blc6 HGJ3.out
    have hlk := bl_lt HGJ3.out
    obtain ⟨⟨p0, p1, p2, p3, p4, p5, p6, p7, p8⟩, -⟩ := blc9 HGD3.out
    have hlp := bl_lt HGD3.out
    go_wp2_with fail
    have hs3 := RSame_any cx cx _ _ wn HVJ3.out HVD3.out (by omega) (by omega) (by omega)
    rw [decide_eq_true rfl] at hs3
    refine calls_below hs3 ?_
    intro wo hbo
    have HB11 := Lib.hid (below_trans HB10.out hbo)
    have HLD4 := Lib.hid (HLD3.out.below hbo)
    have HTD4 := Lib.hid (HTD3.out.below hbo)
    have HLJ4 := Lib.hid (HLJ3.out.below hbo)
    have HTJ4 := Lib.hid (HTJ3.out.below hbo)
    have hgd4 := bl_below HGD3.out hbo
    clear hs3 hbo HB10 HVD3 HLD3 HTD3 HVJ3 HLJ3 HTJ3 HGJ3 HGD3 k0 k1 k2 k3 k4 k5 hlk p0 p1 p2 p3 p4 p5 p6 p7 p8 hlp
    obtain ⟨⟨p0, p1, p2, p3, p4, p5, p6, p7, p8⟩, -⟩ := blc9 hgd4
    have hlp := bl_lt hgd4
    have HGD4 := Lib.hid hgd4
    clear hgd4
    go_wp2_with fail
    have hs4 := RSameLetters_any Al Al2 ncl ncl2 cl cl wo HLJ4.out HLD4.out (by omega)
    rw [decide_eq_true rfl] at hs4
    refine calls_below hs4 ?_
    intro wq hbq
    have HB12 := Lib.hid (below_trans HB11.out hbq)
    have HTD5 := Lib.hid (HTD4.out.below hbq)
    have HTJ5 := Lib.hid (HTJ4.out.below hbq)
    have hgd4 := bl_below HGD4.out hbq
    clear hs4 hbq HB11 HLD4 HTD4 HLJ4 HTJ4 HGD4 p0 p1 p2 p3 p4 p5 p6 p7 p8 hlp
    obtain ⟨⟨p0, p1, p2, p3, p4, p5, p6, p7, p8⟩, -⟩ := blc9 hgd4
    have hlp := bl_lt hgd4
    clear hgd4
    go_wp2_with fail
    have hs5 := RSameTimers_any At At2 nct nct2 ct ct wq HTJ5.out HTD5.out (by omega)
    rw [decide_eq_true rfl] at hs5
    refine calls_below hs5 ?_
    intro wz hbz
    have HB13 := Lib.hid (below_trans HB12.out hbz)
    clear hs5 hbz p0 p1 p2 p3 p4 p5 p6 p7 p8 hlp
    go_wp2
    go_ret
    exact ⟨rfl, HB13.out⟩
end Go.Proofs.YthlbmcfliejdiaaGreat
end

section
set_option linter.unusedVariables false
set_option linter.unusedSimpArgs false
namespace Go.Proofs.YthlbmcfliejdiaaGreat
open Go.RowKit Go.ChangeShapes Go.WideShapes Go.Deep

section
variable {H : Type} {enc : TypeId × Value → H} {P : Program} {W : World} {base : Nat} {spare : Nat → Bool} {held : Bool}
theorem rd_openC {α : Type} [Enc α] [Inhabited α] {t e : TypeId} {fuel : Nat} {cs : List Value} {x : DataW H × List MemPlace} (ht : P.underlying t = some (.slice e)) (hce : P.cellsOf e = Enc.sz α) (hpos : 0 < Enc.sz α)
    (hel : ∀ n cs' y, DataW.trod enc P W base spare held n e cs' = some y → ∃ z : α, cs' = Enc.enc z) (h : DataW.trod enc P W base spare held fuel t cs = some x) :
    ∃ (A : Option Addr) (xs : List α) (cap : Nat), cs = [.slice A xs.length cap] ∧ Rd W A xs ∧ xs.length ≤ maxLen ∧ xs.length ≤ cap := by
  rcases open_slice ht h with ⟨rfl, rfl⟩ | ⟨a, len, cap, m, n, D, Pl, rfl, hb, hl, hm, hmm, rfl, hx⟩
  · exact ⟨none, [], 0, rfl, Rd.nil _ _, Nat.zero_le _, Nat.zero_le _⟩
  have hlm : len ≤ m := by rw [hmm]; split <;> omega
  obtain ⟨f, hf⟩ := choose_lt (n := len) (p := fun i (z : α) => W.cells? base (a.add (i * P.cellsOf e)) (P.cellsOf e) = some (Enc.enc z)) (fun i hi => by
    obtain ⟨cs', h1, h2⟩ := hx i (by omega)
    obtain ⟨z, rfl⟩ := hel _ _ _ h2
    exact ⟨z, h1⟩)
  refine ⟨some a, (List.range len).map f, cap, by simp, ?_, by simp; omega, by simp; omega⟩
  intro i hi
  have hi' : i < len := by simpa using hi
  obtain ⟨b, off, spot⟩ := a
  have hsp : spot = none := by
    obtain ⟨_, _, hc⟩ := World.cells?_some (hf 0 (by omega))
    have h0 := hc 0 (by omega)
    rw [List.getElem?_eq_getElem (by rw [Enc.len]; exact hpos)] at h0
    simpa [Addr.add] using World.cell?_spot h0
  subst hsp
  refine ⟨b, off, rfl, fun k v hk => ?_⟩
  have hxi : ((List.range len).map f)[i] = f i := by simp
  rw [hxi] at hk
  obtain ⟨_, _, hc⟩ := World.cells?_some (hf i hi')
  have hks : k < Enc.sz α := by
    have := (List.getElem?_eq_some_iff.1 hk).1
    rwa [Enc.len] at this
  have h1 := hc k (by omega)
  rw [hk, hce, add_add] at h1
  have h2 : (⟨b, off, none⟩ : Addr).add (i * Enc.sz α + k) = ⟨b, off + i * Enc.sz α + k, none⟩ := by
    rw [add_plain, Nat.add_assoc]
  rw [h2] at h1
  exact h1
end

section
variable {H : Type} {enc : TypeId × Value → H} {W : World} {base : Nat} {spare : Nat → Bool} {held : Bool}
set_option maxRecDepth 100000 in
theorem ActsC_open {r : Reach} {b0 : Nat} {v : Value} {d : DataW H} {p : List MemPlace} (hv : Value.okWide Tryz.prog W r b0 46 v) (h : DataW.Trod enc Tryz.prog W base spare held 46 v d p) :
    ∃ (A : Option Addr) (xs : List Ac) (c : Nat), v = .slice A xs.length c ∧ Rd W A xs ∧ xs.length ≤ 9223372036854775807 ∧ xs.length ≤ c := by
  obtain ⟨a, len, cap, rfl⟩ := okWide_slice Tryz.underlying46 hv
  obtain ⟨fuel, hf⟩ := h
  have hcs : (Value.slice a len cap).cells.toList = [.slice a len cap] := rfl
  rw [hcs] at hf
  obtain ⟨A, xs, c, he, hR, hl, hc⟩ := rd_openC (α := Ac) Tryz.underlying46 (by kernel_rfl) (by decide) el_Ac hf
  simp at he
  obtain ⟨rfl, rfl, rfl⟩ := he
  exact ⟨_, xs, _, rfl, hR, by unfold maxLen at hl; omega, hc⟩
set_option maxRecDepth 100000 in
theorem NetC_open {r : Reach} {b0 : Nat} {v : Value} {d : DataW H} {p : List MemPlace} (hv : Value.okWide Tryz.prog W r b0 26 v) (h : DataW.Trod enc Tryz.prog W base spare held 26 v d p) :
    ∃ (x : Nt) (AW : Option Addr) (cW : Nat) (AC : Option Addr) (cC : Nat) (AT : Option Addr) (cT : Nat), v = .agg #[.int .i64 x.nodes, .int .i64 x.now, .int .i64 x.next, .slice AW x.way.length cW, .slice AC x.cuts.length cC, .slice AT x.timers.length cT] ∧ Rd W AW x.way ∧ Rd W AC x.cuts ∧ Rd W AT x.timers ∧ x.way.length ≤ cW ∧ x.way.length ≤ 9223372036854775807 ∧ x.cuts.length ≤ 9223372036854775807 ∧ x.timers.length ≤ 9223372036854775807 := by
  obtain ⟨cs, rfl, hsz⟩ := okWide_struct Tryz.underlying26 hv
  obtain ⟨fuel, hf⟩ := h
  obtain ⟨xs, k, rfl, _, hlen, hxl, hf⟩ := DataW.trod_struct Tryz.underlying26 hf
  have hC : Tryz.prog.cellsOf 26 = 6 := by kernel_rfl
  have hcs : (Value.agg cs).cells.toList = cs.toList := rfl
  rw [hcs] at hlen hf
  rw [hC] at hlen
  obtain ⟨l⟩ := cs
  match l, hlen, xs, hxl with
  | [c0, c1, c2, c3, c4, c5], _, [x0, x1, x2, x3, x4, x5], _ =>
    have g0 : DataW.trod enc Tryz.prog W base spare held k 3 (([c0, c1, c2, c3, c4, c5].drop 0).take (Tryz.prog.cellsOf 3)) = some x0 := hf 0 _ rfl
    have g1 : DataW.trod enc Tryz.prog W base spare held k 3 (([c0, c1, c2, c3, c4, c5].drop 1).take (Tryz.prog.cellsOf 3)) = some x1 := hf 1 _ rfl
    have g2 : DataW.trod enc Tryz.prog W base spare held k 3 (([c0, c1, c2, c3, c4, c5].drop 2).take (Tryz.prog.cellsOf 3)) = some x2 := hf 2 _ rfl
    have g3 : DataW.trod enc Tryz.prog W base spare held k 22 (([c0, c1, c2, c3, c4, c5].drop 3).take (Tryz.prog.cellsOf 22)) = some x3 := hf 3 _ rfl
    have g4 : DataW.trod enc Tryz.prog W base spare held k 23 (([c0, c1, c2, c3, c4, c5].drop 4).take (Tryz.prog.cellsOf 23)) = some x4 := hf 4 _ rfl
    have g5 : DataW.trod enc Tryz.prog W base spare held k 24 (([c0, c1, c2, c3, c4, c5].drop 5).take (Tryz.prog.cellsOf 24)) = some x5 := hf 5 _ rfl
    rw [c_int] at g0 g1 g2
    rw [show Tryz.prog.cellsOf 22 = 1 by kernel_rfl] at g3
    rw [show Tryz.prog.cellsOf 23 = 1 by kernel_rfl] at g4
    rw [show Tryz.prog.cellsOf 24 = 1 by kernel_rfl] at g5
    obtain ⟨n0, e0, -⟩ := DataW.trod_int Tryz.underlying3 g0
    obtain ⟨n1, e1, -⟩ := DataW.trod_int Tryz.underlying3 g1
    obtain ⟨n2, e2, -⟩ := DataW.trod_int Tryz.underlying3 g2
    obtain ⟨A3, l3, k3, e3, r3, m3, q3⟩ := rd_openC (α := Lt) Tryz.underlying22 (by kernel_rfl) (by decide) el_Lt g3
    obtain ⟨A4, l4, k4, e4, r4, m4⟩ := rd_open (α := Lk) Tryz.underlying23 (by kernel_rfl) (by decide) el_Lk g4
    obtain ⟨A5, l5, k5, e5, r5, m5⟩ := rd_open (α := Tm) Tryz.underlying24 (by kernel_rfl) (by decide) el_Tm g5
    simp at e0 e1 e2 e3 e4 e5
    subst e0 e1 e2 e3 e4 e5
    have hml : maxLen ≤ 9223372036854775807 := by decide
    exact ⟨⟨n0, n1, n2, l3, l4, l5⟩, A3, k3, A4, k4, A5, k5, rfl, r3, r4, r5, q3, Nat.le_trans m3 hml, Nat.le_trans m4 hml, Nat.le_trans m5 hml⟩
end
end Go.Proofs.YthlbmcfliejdiaaGreat
end

section
set_option linter.unusedVariables false
set_option linter.unusedSimpArgs false
namespace Go.Proofs.YthlbmcfliejdiaaGreat
open Go.RowKit Go.ChangeShapes Go.WideShapes Go.Deep

section
variable {H : Type} {enc : TypeId × Value → H} {P : Program} {W : World} {base : Nat} {spare : Nat → Bool} {held : Bool}
theorem rd_openG {α : Type} [Enc α] [Inhabited α] {t e : TypeId} {fuel : Nat} {cs : List Value} {x : DataW H × List MemPlace} {G : α → Prop} (ht : P.underlying t = some (.slice e)) (hce : P.cellsOf e = Enc.sz α) (hpos : 0 < Enc.sz α)
    (hel : ∀ n cs' y, DataW.trod enc P W base spare held n e cs' = some y → ∃ z : α, cs' = Enc.enc z ∧ G z) (h : DataW.trod enc P W base spare held fuel t cs = some x) :
    ∃ (A : Option Addr) (xs : List α) (cap : Nat), cs = [.slice A xs.length cap] ∧ Rd W A xs ∧ xs.length ≤ maxLen ∧ ∀ z ∈ xs, G z := by
  rcases open_slice ht h with ⟨rfl, rfl⟩ | ⟨a, len, cap, m, n, D, Pl, rfl, hb, hl, hm, hmm, rfl, hx⟩
  · exact ⟨none, [], 0, rfl, Rd.nil _ _, Nat.zero_le _, by simp⟩
  have hlm : len ≤ m := by rw [hmm]; split <;> omega
  obtain ⟨f, hf⟩ := choose_lt (n := len) (p := fun i (z : α) => W.cells? base (a.add (i * P.cellsOf e)) (P.cellsOf e) = some (Enc.enc z) ∧ G z) (fun i hi => by
    obtain ⟨cs', h1, h2⟩ := hx i (by omega)
    obtain ⟨z, rfl, hG⟩ := hel _ _ _ h2
    exact ⟨z, h1, hG⟩)
  refine ⟨some a, (List.range len).map f, cap, by simp, ?_, by simp; omega, ?_⟩
  rotate_left 1
  · intro z hz
    obtain ⟨i, hi, rfl⟩ := List.mem_map.1 hz
    exact (hf i (by simpa using hi)).2
  intro i hi
  have hi' : i < len := by simpa using hi
  obtain ⟨b, off, spot⟩ := a
  have hsp : spot = none := by
    obtain ⟨_, _, hc⟩ := World.cells?_some (hf 0 (by omega)).1
    have h0 := hc 0 (by omega)
    rw [List.getElem?_eq_getElem (by rw [Enc.len]; exact hpos)] at h0
    simpa [Addr.add] using World.cell?_spot h0
  subst hsp
  refine ⟨b, off, rfl, fun k v hk => ?_⟩
  have hxi : ((List.range len).map f)[i] = f i := by simp
  rw [hxi] at hk
  obtain ⟨_, _, hc⟩ := World.cells?_some (hf i hi').1
  have hks : k < Enc.sz α := by
    have := (List.getElem?_eq_some_iff.1 hk).1
    rwa [Enc.len] at this
  have h1 := hc k (by omega)
  rw [hk, hce, add_add] at h1
  have h2 : (⟨b, off, none⟩ : Addr).add (i * Enc.sz α + k) = ⟨b, off + i * Enc.sz α + k, none⟩ := by
    rw [add_plain, Nat.add_assoc]
  rw [h2] at h1
  exact h1
theorem sns_of {W : World} : ∀ (rs : List SnR), (∀ r ∈ rs, ∃ s : Sn, IsSn W r s) → ∃ xs : List Sn, Sns W rs xs
  | [], _ => ⟨[], rfl, fun i r s hr _ => by simp at hr⟩
  | r :: l, h => by
    obtain ⟨s, hs⟩ := h r (by simp)
    obtain ⟨xs, h1, h2⟩ := sns_of l (fun q hq => h q (by simp [hq]))
    refine ⟨s :: xs, by simp [h1], fun i q t hq ht => ?_⟩
    cases i with
    | zero => simp at hq ht; subst hq; subst ht; exact hs
    | succ i => simp at hq ht; exact h2 i q t hq ht
end

section
variable {H : Type} {enc : TypeId × Value → H} {W : World} {base : Nat} {spare : Nat → Bool} {held : Bool}
instance : Inhabited SnR := ⟨⟨zAc, 0, 0, zLt, none, 0, 0⟩⟩
set_option maxRecDepth 100000 in
theorem el_Sn (n : Nat) (cs : List Value) (y : DataW H × List MemPlace) (h : DataW.trod enc Tryz.prog W base spare held n 52 cs = some y) : ∃ z : SnR, cs = Enc.enc z ∧ ∃ s : Sn, IsSn W z s := by
  obtain ⟨xs, k, rfl, _, hlen, hxl, hf⟩ := DataW.trod_struct Tryz.underlying52 h
  have hC : Tryz.prog.cellsOf 52 = 13 := by kernel_rfl
  rw [hC] at hlen
  match cs, hlen, xs, hxl with
  | [c0, c1, c2, c3, c4, c5, c6, c7, c8, c9, c10, c11, c12], _, [x0, x1, x2, x3, x4], _ =>
    have g0 : DataW.trod enc Tryz.prog W base spare held k 50 (([c0, c1, c2, c3, c4, c5, c6, c7, c8, c9, c10, c11, c12].drop 0).take (Tryz.prog.cellsOf 50)) = some x0 := hf 0 _ rfl
    have g1 : DataW.trod enc Tryz.prog W base spare held k 29 (([c0, c1, c2, c3, c4, c5, c6, c7, c8, c9, c10, c11, c12].drop 5).take (Tryz.prog.cellsOf 29)) = some x1 := hf 1 _ rfl
    have g2 : DataW.trod enc Tryz.prog W base spare held k 3 (([c0, c1, c2, c3, c4, c5, c6, c7, c8, c9, c10, c11, c12].drop 6).take (Tryz.prog.cellsOf 3)) = some x2 := hf 2 _ rfl
    have g3 : DataW.trod enc Tryz.prog W base spare held k 33 (([c0, c1, c2, c3, c4, c5, c6, c7, c8, c9, c10, c11, c12].drop 7).take (Tryz.prog.cellsOf 33)) = some x3 := hf 3 _ rfl
    have g4 : DataW.trod enc Tryz.prog W base spare held k 24 (([c0, c1, c2, c3, c4, c5, c6, c7, c8, c9, c10, c11, c12].drop 12).take (Tryz.prog.cellsOf 24)) = some x4 := hf 4 _ rfl
    rw [show Tryz.prog.cellsOf 50 = 5 by kernel_rfl] at g0
    rw [show Tryz.prog.cellsOf 29 = 1 by kernel_rfl] at g1
    rw [c_int] at g2
    rw [show Tryz.prog.cellsOf 33 = 5 by kernel_rfl] at g3
    rw [show Tryz.prog.cellsOf 24 = 1 by kernel_rfl] at g4
    obtain ⟨a, e0⟩ := el_Ac _ _ _ g0
    obtain ⟨n1, e1, -⟩ := DataW.trod_int Tryz.underlying29 g1
    obtain ⟨n2, e2, -⟩ := DataW.trod_int Tryz.underlying3 g2
    obtain ⟨l, e3⟩ := el_Lt _ _ _ g3
    obtain ⟨A4, ts, tc, e4, r4, m4⟩ := rd_open (α := Tm) Tryz.underlying24 (by kernel_rfl) (by decide) el_Tm g4
    simp [Enc.enc] at e0 e1 e2 e3 e4
    obtain ⟨rfl, rfl, rfl, rfl, rfl⟩ := e0
    obtain ⟨rfl, rfl, rfl, rfl, rfl⟩ := e3
    subst e1 e2 e4
    exact ⟨⟨a, n1, n2, l, A4, ts.length, tc⟩, rfl, ⟨a, n1, n2, l, ts⟩, rfl, rfl, rfl, rfl, rfl, r4⟩
set_option maxRecDepth 100000 in
theorem Seens_open {r : Reach} {b0 : Nat} {v : Value} {d : DataW H} {p : List MemPlace} (hv : Value.okWide Tryz.prog W r b0 47 v) (h : DataW.Trod enc Tryz.prog W base spare held 47 v d p) :
    ∃ (A : Option Addr) (rs : List SnR) (xs : List Sn) (c : Nat), v = .slice A xs.length c ∧ Rd W A rs ∧ Sns W rs xs ∧ xs.length ≤ 9223372036854775807 := by
  obtain ⟨a, len, cap, rfl⟩ := okWide_slice Tryz.underlying47 hv
  obtain ⟨fuel, hf⟩ := h
  have hcs : (Value.slice a len cap).cells.toList = [.slice a len cap] := rfl
  rw [hcs] at hf
  obtain ⟨A, rs, c, he, hR, hl, hG⟩ := rd_openG (α := SnR) (G := fun r => ∃ s : Sn, IsSn W r s) Tryz.underlying47 (by kernel_rfl) (by decide) el_Sn hf
  obtain ⟨xs, hs⟩ := sns_of rs hG
  simp at he
  obtain ⟨rfl, rfl, rfl⟩ := he
  refine ⟨_, rs, xs, _, by rw [hs.1], hR, hs, ?_⟩
  rw [← hs.1]
  unfold maxLen at hl; omega
end
end Go.Proofs.YthlbmcfliejdiaaGreat
end

section
set_option linter.unusedVariables false
namespace Go.Proofs.YthlbmcfliejdiaaGreat.netPlays
open Go.ChangeShapes Go.WideShapes Go.ChangeAt Go.RowKit
theorem own : ownKnob Tryz.prog.godebug = none := by kernel_rfl
theorem laidOut : laidOutB Tryz.prog = true := by kernel_rfl
set_option maxRecDepth 100000 in
theorem lifted (os : Os) (started : os.Started) (H : Type) (enc : TypeId × Value → H) :
    ReturnsInHanded {} Tryz.checked os 4 .any (Rows.netPlaysSpec.pre6 enc Tryz.prog Tryz.f4 Rows.netPlaysRow.domain false) (Rows.netPlaysSpec.post enc Tryz.prog Tryz.f4 false true false false) := by
  refine returnsInHanded_of_change_sized (C := Tryz.checked) own started (by kernel_rfl) Tryz.func4
    (ChangeSpec.witness6 (enc := enc) (C := Tryz.checked) false ⟨#[], #[.agg #[.int .i64 0, .int .i64 0, .int .i64 0, .slice none 0 0, .slice none 0 0, .slice none 0 0], .int .i64 0, .slice none 0 0, .slice none 0 0, .int .i64 0], []⟩ 8 (by kernel_rfl) (by kernel_rfl) (by kernel_rfl) (by kernel_rfl)) ?_
  intro W base args ds gs before hval0 hW hcnd hsz0 _
  have hval : ∀ (j : Nat) t v, Tryz.f4.params[j]? = some t → args[j]? = some v → Value.okWide Tryz.prog W .any base t v := hval0
  have hW' := hW
  obtain ⟨p, q, hA0, hV, rfl, hfz, hnd⟩ := hW
  have hA : DataW.TrodAll enc Tryz.prog W 0 (fun _ => true) true Tryz.f4.params.toList args.toList ds p := hA0
  rw [Tryz.params4] at hA hval
  obtain ⟨v0, vs0, d0, ds0, p0, q0, hargs, rfl, rfl, h0, r0⟩ := trodAll_cons hA
  obtain ⟨v1, vs1, d1, ds1, p1, q1, rfl, rfl, rfl, h1, r1⟩ := trodAll_cons r0
  obtain ⟨v2, vs2, d2, ds2, p2, q2, rfl, rfl, rfl, h2, r2⟩ := trodAll_cons r1
  obtain ⟨v3, vs3, d3, ds3, p3, q3, rfl, rfl, rfl, h3, r3⟩ := trodAll_cons r2
  obtain ⟨v4, vs4, d4, ds4, p4, q4, rfl, rfl, rfl, h4, r4⟩ := trodAll_cons r3
  obtain ⟨rfl, rfl, rfl⟩ := trodAll_nil r4
  obtain rfl : args = #[v0, v1, v2, v3, v4] := by cases args; simp_all
  obtain ⟨rfl, rfl⟩ := trodVars_none hV
  have k0 := h0
  have lt0 : ∀ x ∈ p0, x.block < W.heap.size := by obtain ⟨m, hm⟩ := k0; exact DataW.trod_lt m _ _ _ hm
  obtain ⟨x0, AW0, cW0, AC0, cC0, AT0, cT0, e0, r10, r20, r30, r40, hw0, hc0, ht0⟩ := NetC_open (hval 0 26 v0 rfl rfl) h0
  have hx0 : NetC W v0 x0 := ⟨AW0, cW0, AC0, cC0, AT0, cT0, e0, r10, r20, r30, r40⟩
  obtain ⟨a1, rfl, rfl, rfl, w1⟩ := open_int Tryz.underlying3 (hval 1 3 v1 rfl rfl) h1
  have k2 := h2
  have lt2 : ∀ x ∈ p2, x.block < W.heap.size := by obtain ⟨m, hm⟩ := k2; exact DataW.trod_lt m _ _ _ hm
  obtain ⟨A2, xs2, c2, rfl, hR2, hl2, hc2⟩ := ActsC_open (hval 2 46 v2 rfl rfl) h2
  have k3 := h3
  have lt3 : ∀ x ∈ p3, x.block < W.heap.size := by obtain ⟨m, hm⟩ := k3; exact DataW.trod_lt m _ _ _ hm
  obtain ⟨A3, rs3, xs3, c3, rfl, hR3, hS3, hl3⟩ := Seens_open (hval 3 47 v3 rfl rfl) h3
  obtain ⟨a4, rfl, rfl, rfl, w4⟩ := open_int Tryz.underlying3 (hval 4 3 v4 rfl rfl) h4
  clear hA0 hval0 hsz0
  refine (NetPlays_any x0 a1 xs2 A2 c2 xs3 rs3 A3 c3 a4 v0 W hx0 hR2 hR3 hS3 hw0 hc0 ht0 hl2 hl3).mono fun e W' ⟨he, bel⟩ => ?_
  subst he
  exact ⟨_, rfl, _, _, _, [], _, [], hW', trodAll_mk1 (shut_bool Tryz.underlying4 _), (trodAll_cons_mk (Below.trod laidOut (by kernel_rfl) (of_decide_eq_true (by kernel_rfl)) k0 bel lt0) (trodAll_cons_mk (shut_int Tryz.underlying3 w1) (trodAll_cons_mk (Below.trod laidOut (by kernel_rfl) (of_decide_eq_true (by kernel_rfl)) k2 bel lt2) (trodAll_cons_mk (Below.trod laidOut (by kernel_rfl) (of_decide_eq_true (by kernel_rfl)) k3 bel lt3) (trodAll_cons_mk (shut_int Tryz.underlying3 w4) trodAll_mk0))))), rfl, bel.frame _, fun h => by cases h⟩
theorem over : Rows.netPlaysRow.holds Tryz.pinned (OpenSpec.ofChange Rows.netPlaysSpec) :=
  OpenClaim.holds_of_wide 4 Tryz.f4 rfl rfl rfl rfl rfl rfl rfl ⟨rfl, rfl, rfl, rfl, rfl⟩ rfl rfl rfl rfl rfl (by kernel_rfl) Tryz.func4 (by kernel_rfl)
    (of_decide_eq_true (by kernel_rfl)) (by unfold Func.isWrapper; first | (rw [if_pos (by decide +kernel)]; kernel_rfl) | (rw [if_neg (by decide +kernel)]; exact ⟨rfl, rfl⟩))
    (fun os started H enc _ => lifted os started H enc)
theorem proved : Rows.NetPlaysSaid := over
end Go.Proofs.YthlbmcfliejdiaaGreat.netPlays
namespace Go.Proofs.YthlbmcfliejdiaaGreat
theorem netPlays_holds : Rows.NetPlaysSaid := netPlays.proved
end Go.Proofs.YthlbmcfliejdiaaGreat
end
