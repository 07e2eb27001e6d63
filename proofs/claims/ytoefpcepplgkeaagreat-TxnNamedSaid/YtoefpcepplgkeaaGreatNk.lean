/- A named tree among the arguments, opened. (Printed by wip/txn/gen_open.py.). -/
import Derived.Test.YtoefpcepplgkeaaGreatNd
import Derived.Deep.Slices
import Derived.ChangeArms
import Derived.WideShapes
import Derived.OpenShut
section
set_option maxRecDepth 100000
set_option linter.unusedVariables false
set_option linter.unusedSimpArgs false
namespace Go.Proofs.YtoefpcepplgkeaaGreat
open Go.RowKit Go.ChangeShapes Go.WideShapes Go.Deep
section
variable {H : Type} {enc : TypeId × Value → H} {W : World} {base : Nat} {spare : Nat → Bool} {held : Bool}
theorem c5 : Tryz.prog.cellsOf 5 = 1 := by kernel_rfl
theorem c3 : Tryz.prog.cellsOf 3 = 1 := by kernel_rfl
theorem c9 : Tryz.prog.cellsOf 9 = 1 := by kernel_rfl
theorem c23 : Tryz.prog.cellsOf 23 = 16 := by kernel_rfl
theorem c25 : Tryz.prog.cellsOf 25 = 18 := by kernel_rfl
theorem c27 : Tryz.prog.cellsOf 27 = 20 := by kernel_rfl
theorem u8_of {n : Int} (h : (Lit.int .u8 n).wf = true) : ∃ b : UInt8, n = (b.toNat : Int) := by
  simp [Lit.wf, IntKind.min, IntKind.max, IntKind.signed, IntKind.bits] at h
  refine ⟨UInt8.ofNat n.toNat, ?_⟩
  rw [UInt8.toNat_ofNat']
  omega
theorem el_Sum (n : Nat) (cs : List Value) (y : DataW H × List MemPlace) (h : DataW.trod enc Tryz.prog W base spare held n 23 cs = some y) : ∃ s0 s1 s2 s3 s4 s5 s6 s7 s8 s9 s10 s11 s12 s13 s14 s15 : UInt8, cs = [.int .u8 (s0.toNat : Int), .int .u8 (s1.toNat : Int), .int .u8 (s2.toNat : Int), .int .u8 (s3.toNat : Int), .int .u8 (s4.toNat : Int), .int .u8 (s5.toNat : Int), .int .u8 (s6.toNat : Int), .int .u8 (s7.toNat : Int), .int .u8 (s8.toNat : Int), .int .u8 (s9.toNat : Int), .int .u8 (s10.toNat : Int), .int .u8 (s11.toNat : Int), .int .u8 (s12.toNat : Int), .int .u8 (s13.toNat : Int), .int .u8 (s14.toNat : Int), .int .u8 (s15.toNat : Int)] := by
  obtain ⟨xs, k, rfl, _, hlen, hxl, hf⟩ := DataW.trod_array Tryz.underlying23 h
  rw [c23] at hlen
  have hc : ∀ (i : Nat), i < 16 → ∃ b : UInt8, cs[i]? = some (.int .u8 (b.toNat : Int)) := by
    intro i hi
    have g := hf i hi
    rw [c5, Nat.mul_one, List.getElem?_eq_getElem (by omega)] at g
    obtain ⟨z, e, -, hw⟩ := DataW.trod_int Tryz.underlying5 g
    obtain ⟨b, rfl⟩ := u8_of hw
    refine ⟨b, ?_⟩
    have : (cs.drop i).take 1 = [cs[i]'(by omega)] := by
      rw [List.drop_eq_getElem_cons (by omega : i < cs.length)]
      rfl
    rw [this] at e
    rw [List.getElem?_eq_getElem (by omega)]
    simpa using e
  obtain ⟨s0, e0⟩ := hc 0 (by decide)
  obtain ⟨s1, e1⟩ := hc 1 (by decide)
  obtain ⟨s2, e2⟩ := hc 2 (by decide)
  obtain ⟨s3, e3⟩ := hc 3 (by decide)
  obtain ⟨s4, e4⟩ := hc 4 (by decide)
  obtain ⟨s5, e5⟩ := hc 5 (by decide)
  obtain ⟨s6, e6⟩ := hc 6 (by decide)
  obtain ⟨s7, e7⟩ := hc 7 (by decide)
  obtain ⟨s8, e8⟩ := hc 8 (by decide)
  obtain ⟨s9, e9⟩ := hc 9 (by decide)
  obtain ⟨s10, e10⟩ := hc 10 (by decide)
  obtain ⟨s11, e11⟩ := hc 11 (by decide)
  obtain ⟨s12, e12⟩ := hc 12 (by decide)
  obtain ⟨s13, e13⟩ := hc 13 (by decide)
  obtain ⟨s14, e14⟩ := hc 14 (by decide)
  obtain ⟨s15, e15⟩ := hc 15 (by decide)
  refine ⟨s0, s1, s2, s3, s4, s5, s6, s7, s8, s9, s10, s11, s12, s13, s14, s15, ?_⟩
  match cs, hlen with
  | [c0, c1, c2, c3, c4, c5, c6, c7, c8, c9, c10, c11, c12, c13, c14, c15], _ =>
    simp at e0 e1 e2 e3 e4 e5 e6 e7 e8 e9 e10 e11 e12 e13 e14 e15
    simp [e0, e1, e2, e3, e4, e5, e6, e7, e8, e9, e10, e11, e12, e13, e14, e15]
theorem el_Tree (n : Nat) (cs : List Value) (y : DataW H × List MemPlace) (h : DataW.trod enc Tryz.prog W base spare held n 25 cs = some y) : ∃ (r c : Int) (s0 s1 s2 s3 s4 s5 s6 s7 s8 s9 s10 s11 s12 s13 s14 s15 : UInt8), cs = [.int .i64 r, .int .i64 c, .int .u8 (s0.toNat : Int), .int .u8 (s1.toNat : Int), .int .u8 (s2.toNat : Int), .int .u8 (s3.toNat : Int), .int .u8 (s4.toNat : Int), .int .u8 (s5.toNat : Int), .int .u8 (s6.toNat : Int), .int .u8 (s7.toNat : Int), .int .u8 (s8.toNat : Int), .int .u8 (s9.toNat : Int), .int .u8 (s10.toNat : Int), .int .u8 (s11.toNat : Int), .int .u8 (s12.toNat : Int), .int .u8 (s13.toNat : Int), .int .u8 (s14.toNat : Int), .int .u8 (s15.toNat : Int)] := by
  obtain ⟨xs, k, rfl, _, hlen, hxl, hf⟩ := DataW.trod_struct Tryz.underlying25 h
  rw [c25] at hlen
  obtain ⟨x0, x1, x2, rfl⟩ : ∃ x0 x1 x2, xs = [x0, x1, x2] := by
    match xs, hxl with
    | [x0, x1, x2], _ => exact ⟨x0, x1, x2, rfl⟩
  have g0 : DataW.trod enc Tryz.prog W base spare held k 3 ((cs.drop 0).take (Tryz.prog.cellsOf 3)) = some x0 := hf 0 _ rfl
  have g1 : DataW.trod enc Tryz.prog W base spare held k 3 ((cs.drop 1).take (Tryz.prog.cellsOf 3)) = some x1 := hf 1 _ rfl
  have g2 : DataW.trod enc Tryz.prog W base spare held k 23 ((cs.drop 2).take (Tryz.prog.cellsOf 23)) = some x2 := hf 2 _ rfl
  rw [c3] at g0 g1
  rw [c23] at g2
  obtain ⟨r, e0, -⟩ := DataW.trod_int Tryz.underlying3 g0
  obtain ⟨c, e1, -⟩ := DataW.trod_int Tryz.underlying3 g1
  obtain ⟨s0, s1, s2, s3, s4, s5, s6, s7, s8, s9, s10, s11, s12, s13, s14, s15, e2⟩ := el_Sum _ _ _ g2
  refine ⟨r, c, s0, s1, s2, s3, s4, s5, s6, s7, s8, s9, s10, s11, s12, s13, s14, s15, ?_⟩
  match cs, hlen with
  | a :: b :: l, hl =>
    simp only [List.drop_zero, List.take_succ_cons, List.take_zero, List.drop_succ_cons, List.cons.injEq, and_true] at e0 e1 e2
    rw [List.take_of_length_le (by simp at hl; omega)] at e2
    rw [e0, e1, e2]
theorem el_Named (n : Nat) (cs : List Value) (y : DataW H × List MemPlace) (h : DataW.trod enc Tryz.prog W base spare held n 27 cs = some y) : ∃ x : Nmd, cs = (nmC x).toList ∧ x.name.size ≤ maxLen := by
  obtain ⟨xs, k, rfl, _, hlen, hxl, hf⟩ := DataW.trod_struct Tryz.underlying27 h
  rw [c27] at hlen
  obtain ⟨x0, x1, x2, rfl⟩ : ∃ x0 x1 x2, xs = [x0, x1, x2] := by
    match xs, hxl with
    | [x0, x1, x2], _ => exact ⟨x0, x1, x2, rfl⟩
  have g0 : DataW.trod enc Tryz.prog W base spare held k 9 ((cs.drop 0).take (Tryz.prog.cellsOf 9)) = some x0 := hf 0 _ rfl
  have g1 : DataW.trod enc Tryz.prog W base spare held k 3 ((cs.drop 1).take (Tryz.prog.cellsOf 3)) = some x1 := hf 1 _ rfl
  have g2 : DataW.trod enc Tryz.prog W base spare held k 25 ((cs.drop 2).take (Tryz.prog.cellsOf 25)) = some x2 := hf 2 _ rfl
  rw [c9] at g0
  rw [c3] at g1
  rw [c25] at g2
  obtain ⟨s, e0, _, hs⟩ := DataW.trod_string Tryz.underlying9 g0
  obtain ⟨c, e1, -⟩ := DataW.trod_int Tryz.underlying3 g1
  obtain ⟨r, q, s0, s1, s2, s3, s4, s5, s6, s7, s8, s9, s10, s11, s12, s13, s14, s15, e2⟩ := el_Tree _ _ _ g2
  refine ⟨⟨s, c, r, q, s0, s1, s2, s3, s4, s5, s6, s7, s8, s9, s10, s11, s12, s13, s14, s15⟩, ?_, hs⟩
  match cs, hlen with
  | a :: b :: l, hl =>
    simp only [List.drop_zero, List.take_succ_cons, List.take_zero, List.drop_succ_cons, List.cons.injEq, and_true] at e0 e1 e2
    rw [List.take_of_length_le (by simp at hl; omega)] at e2
    rw [e0, e1, e2]
    rfl
theorem Nmd_open {r : Reach} {b0 : Nat} {v : Value} {d : DataW H} {p : List MemPlace} (hv : Value.okWide Tryz.prog W r b0 27 v) (h : DataW.Trod enc Tryz.prog W base spare held 27 v d p) : ∃ x : Nmd, v = .agg (nmC x) ∧ x.name.size ≤ maxLen := by
  obtain ⟨cs, rfl, hsz⟩ := okWide_struct Tryz.underlying27 hv
  obtain ⟨fuel, hf⟩ := h
  obtain ⟨z, hz, hs⟩ := el_Named _ _ _ hf
  have hcs : (Value.agg cs).cells.toList = cs.toList := rfl
  rw [hcs] at hz
  exact ⟨z, congrArg Value.agg (Array.toList_inj.1 hz), hs⟩
end
end Go.Proofs.YtoefpcepplgkeaaGreat
end
