/- Named trees: 20 cells; their comparison; the contracts of isNamed and right. (Printed by wip/txn/gen_nm.py.). Named trees behind a name: their cells, their comparison. The contracts of isNamed and right of layer 13. (Printed by wip/txn/gen_in.py.). -/
import Derived.Test.YtoefpcepplgkeaaGreatNa
import Derived.Laws.Tables
section
set_option maxRecDepth 100000
set_option linter.unusedVariables false
set_option linter.unusedSimpArgs false
namespace Go.Proofs.YtoefpcepplgkeaaGreat
open Go.RowKit Go.Instr

structure Nmd where
  name : ByteArray
  number : Int
  root : Int
  count : Int
  s0 : UInt8
  s1 : UInt8
  s2 : UInt8
  s3 : UInt8
  s4 : UInt8
  s5 : UInt8
  s6 : UInt8
  s7 : UInt8
  s8 : UInt8
  s9 : UInt8
  s10 : UInt8
  s11 : UInt8
  s12 : UInt8
  s13 : UInt8
  s14 : UInt8
  s15 : UInt8
  deriving DecidableEq

def sumEq (x0 x1 x2 x3 x4 x5 x6 x7 x8 x9 x10 x11 x12 x13 x14 x15 y0 y1 y2 y3 y4 y5 y6 y7 y8 y9 y10 y11 y12 y13 y14 y15 : Int) : Bool := (x0 == y0) && ((x1 == y1) && ((x2 == y2) && ((x3 == y3) && ((x4 == y4) && ((x5 == y5) && ((x6 == y6) && ((x7 == y7) && ((x8 == y8) && ((x9 == y9) && ((x10 == y10) && ((x11 == y11) && ((x12 == y12) && ((x13 == y13) && ((x14 == y14) && ((x15 == y15))))))))))))))))

theorem eqSum (d : Nat) (w : World) (x0 x1 x2 x3 x4 x5 x6 x7 x8 x9 x10 x11 x12 x13 x14 x15 y0 y1 y2 y3 y4 y5 y6 y7 y8 y9 y10 y11 y12 y13 y14 y15 : Int) : (Op.equalIn (d + 2) 23 (.agg #[.int .u8 x0, .int .u8 x1, .int .u8 x2, .int .u8 x3, .int .u8 x4, .int .u8 x5, .int .u8 x6, .int .u8 x7, .int .u8 x8, .int .u8 x9, .int .u8 x10, .int .u8 x11, .int .u8 x12, .int .u8 x13, .int .u8 x14, .int .u8 x15]) (.agg #[.int .u8 y0, .int .u8 y1, .int .u8 y2, .int .u8 y3, .int .u8 y4, .int .u8 y5, .int .u8 y6, .int .u8 y7, .int .u8 y8, .int .u8 y9, .int .u8 y10, .int .u8 y11, .int .u8 y12, .int .u8 y13, .int .u8 y14, .int .u8 y15])).run Tryz.prog w = .ok (sumEq x0 x1 x2 x3 x4 x5 x6 x7 x8 x9 x10 x11 x12 x13 x14 x15 y0 y1 y2 y3 y4 y5 y6 y7 y8 y9 y10 y11 y12 y13 y14 y15) w := by
  refine eqR_of (c := 1) Tryz.underlying23 Tryz.type5 (by kernel_rfl) ?_
  simp only [List.range, List.range.loop]
  refine eqi_cons (by go_simp; rfl) (by go_simp; rfl) (by go_simp) ?_
  refine eqi_cons (by go_simp; rfl) (by go_simp; rfl) (by go_simp) ?_
  refine eqi_cons (by go_simp; rfl) (by go_simp; rfl) (by go_simp) ?_
  refine eqi_cons (by go_simp; rfl) (by go_simp; rfl) (by go_simp) ?_
  refine eqi_cons (by go_simp; rfl) (by go_simp; rfl) (by go_simp) ?_
  refine eqi_cons (by go_simp; rfl) (by go_simp; rfl) (by go_simp) ?_
  refine eqi_cons (by go_simp; rfl) (by go_simp; rfl) (by go_simp) ?_
  refine eqi_cons (by go_simp; rfl) (by go_simp; rfl) (by go_simp) ?_
  refine eqi_cons (by go_simp; rfl) (by go_simp; rfl) (by go_simp) ?_
  refine eqi_cons (by go_simp; rfl) (by go_simp; rfl) (by go_simp) ?_
  refine eqi_cons (by go_simp; rfl) (by go_simp; rfl) (by go_simp) ?_
  refine eqi_cons (by go_simp; rfl) (by go_simp; rfl) (by go_simp) ?_
  refine eqi_cons (by go_simp; rfl) (by go_simp; rfl) (by go_simp) ?_
  refine eqi_cons (by go_simp; rfl) (by go_simp; rfl) (by go_simp) ?_
  refine eqi_cons (by go_simp; rfl) (by go_simp; rfl) (by go_simp) ?_
  exact eqi_last (by go_simp; rfl) (by go_simp; rfl) (by go_simp)

theorem eqTree (d : Nat) (w : World) (a b a' b' x0 x1 x2 x3 x4 x5 x6 x7 x8 x9 x10 x11 x12 x13 x14 x15 y0 y1 y2 y3 y4 y5 y6 y7 y8 y9 y10 y11 y12 y13 y14 y15 : Int) : (Op.equalIn (d + 3) 25 (.agg #[.int .i64 a, .int .i64 b, .int .u8 x0, .int .u8 x1, .int .u8 x2, .int .u8 x3, .int .u8 x4, .int .u8 x5, .int .u8 x6, .int .u8 x7, .int .u8 x8, .int .u8 x9, .int .u8 x10, .int .u8 x11, .int .u8 x12, .int .u8 x13, .int .u8 x14, .int .u8 x15]) (.agg #[.int .i64 a', .int .i64 b', .int .u8 y0, .int .u8 y1, .int .u8 y2, .int .u8 y3, .int .u8 y4, .int .u8 y5, .int .u8 y6, .int .u8 y7, .int .u8 y8, .int .u8 y9, .int .u8 y10, .int .u8 y11, .int .u8 y12, .int .u8 y13, .int .u8 y14, .int .u8 y15])).run Tryz.prog w = .ok ((a == a') && ((b == b') && sumEq x0 x1 x2 x3 x4 x5 x6 x7 x8 x9 x10 x11 x12 x13 x14 x15 y0 y1 y2 y3 y4 y5 y6 y7 y8 y9 y10 y11 y12 y13 y14 y15)) w := by
  refine eqA_of Tryz.underlying25 (by kernel_rfl) ?_
  refine eqf_cons (by rfl) (by go_simp; rfl) (by go_simp; rfl) (by go_simp) ?_
  refine eqf_cons (by rfl) (by go_simp; rfl) (by go_simp; rfl) (by go_simp) ?_
  exact eqf_last (by rfl) (by go_simp) (by go_simp) (eqSum d w x0 x1 x2 x3 x4 x5 x6 x7 x8 x9 x10 x11 x12 x13 x14 x15 y0 y1 y2 y3 y4 y5 y6 y7 y8 y9 y10 y11 y12 y13 y14 y15)
def nmdEq (x y : Nmd) : Bool := (x.name.toList == y.name.toList) && ((x.number == y.number) && ((x.root == y.root) && ((x.count == y.count) && sumEq (x.s0.toNat : Int) (x.s1.toNat : Int) (x.s2.toNat : Int) (x.s3.toNat : Int) (x.s4.toNat : Int) (x.s5.toNat : Int) (x.s6.toNat : Int) (x.s7.toNat : Int) (x.s8.toNat : Int) (x.s9.toNat : Int) (x.s10.toNat : Int) (x.s11.toNat : Int) (x.s12.toNat : Int) (x.s13.toNat : Int) (x.s14.toNat : Int) (x.s15.toNat : Int) (y.s0.toNat : Int) (y.s1.toNat : Int) (y.s2.toNat : Int) (y.s3.toNat : Int) (y.s4.toNat : Int) (y.s5.toNat : Int) (y.s6.toNat : Int) (y.s7.toNat : Int) (y.s8.toNat : Int) (y.s9.toNat : Int) (y.s10.toNat : Int) (y.s11.toNat : Int) (y.s12.toNat : Int) (y.s13.toNat : Int) (y.s14.toNat : Int) (y.s15.toNat : Int))))
theorem eqNamed (d : Nat) (w : World) (x y : Nmd) : (Op.equalIn (d + 4) 27 (.agg #[.string x.name, .int .i64 x.number, .int .i64 x.root, .int .i64 x.count, .int .u8 (x.s0.toNat : Int), .int .u8 (x.s1.toNat : Int), .int .u8 (x.s2.toNat : Int), .int .u8 (x.s3.toNat : Int), .int .u8 (x.s4.toNat : Int), .int .u8 (x.s5.toNat : Int), .int .u8 (x.s6.toNat : Int), .int .u8 (x.s7.toNat : Int), .int .u8 (x.s8.toNat : Int), .int .u8 (x.s9.toNat : Int), .int .u8 (x.s10.toNat : Int), .int .u8 (x.s11.toNat : Int), .int .u8 (x.s12.toNat : Int), .int .u8 (x.s13.toNat : Int), .int .u8 (x.s14.toNat : Int), .int .u8 (x.s15.toNat : Int)]) (.agg #[.string y.name, .int .i64 y.number, .int .i64 y.root, .int .i64 y.count, .int .u8 (y.s0.toNat : Int), .int .u8 (y.s1.toNat : Int), .int .u8 (y.s2.toNat : Int), .int .u8 (y.s3.toNat : Int), .int .u8 (y.s4.toNat : Int), .int .u8 (y.s5.toNat : Int), .int .u8 (y.s6.toNat : Int), .int .u8 (y.s7.toNat : Int), .int .u8 (y.s8.toNat : Int), .int .u8 (y.s9.toNat : Int), .int .u8 (y.s10.toNat : Int), .int .u8 (y.s11.toNat : Int), .int .u8 (y.s12.toNat : Int), .int .u8 (y.s13.toNat : Int), .int .u8 (y.s14.toNat : Int), .int .u8 (y.s15.toNat : Int)])).run Tryz.prog w = .ok (nmdEq x y) w := by
  refine eqA_of Tryz.underlying27 (by kernel_rfl) ?_
  refine eqf_cons (by rfl) (by go_simp; rfl) (by go_simp; rfl) (by go_simp) ?_
  refine eqf_cons (by rfl) (by go_simp; rfl) (by go_simp; rfl) (by go_simp) ?_
  exact eqf_last (by rfl) (by go_simp) (by go_simp) (eqTree d w x.root x.count y.root y.count (x.s0.toNat : Int) (x.s1.toNat : Int) (x.s2.toNat : Int) (x.s3.toNat : Int) (x.s4.toNat : Int) (x.s5.toNat : Int) (x.s6.toNat : Int) (x.s7.toNat : Int) (x.s8.toNat : Int) (x.s9.toNat : Int) (x.s10.toNat : Int) (x.s11.toNat : Int) (x.s12.toNat : Int) (x.s13.toNat : Int) (x.s14.toNat : Int) (x.s15.toNat : Int) (y.s0.toNat : Int) (y.s1.toNat : Int) (y.s2.toNat : Int) (y.s3.toNat : Int) (y.s4.toNat : Int) (y.s5.toNat : Int) (y.s6.toNat : Int) (y.s7.toNat : Int) (y.s8.toNat : Int) (y.s9.toNat : Int) (y.s10.toNat : Int) (y.s11.toNat : Int) (y.s12.toNat : Int) (y.s13.toNat : Int) (y.s14.toNat : Int) (y.s15.toNat : Int))
theorem sumEq_iff (x0 x1 x2 x3 x4 x5 x6 x7 x8 x9 x10 x11 x12 x13 x14 x15 y0 y1 y2 y3 y4 y5 y6 y7 y8 y9 y10 y11 y12 y13 y14 y15 : Int) : sumEq x0 x1 x2 x3 x4 x5 x6 x7 x8 x9 x10 x11 x12 x13 x14 x15 y0 y1 y2 y3 y4 y5 y6 y7 y8 y9 y10 y11 y12 y13 y14 y15 = true ↔ x0 = y0 ∧ x1 = y1 ∧ x2 = y2 ∧ x3 = y3 ∧ x4 = y4 ∧ x5 = y5 ∧ x6 = y6 ∧ x7 = y7 ∧ x8 = y8 ∧ x9 = y9 ∧ x10 = y10 ∧ x11 = y11 ∧ x12 = y12 ∧ x13 = y13 ∧ x14 = y14 ∧ x15 = y15 := by simp [sumEq]
theorem bytes_eq {a b : ByteArray} (h : a.toList = b.toList) : a = b := by
  rw [ByteArray.toList_eq, ByteArray.toList_eq] at h
  obtain ⟨⟨x⟩⟩ := a
  obtain ⟨⟨y⟩⟩ := b
  simpa using h
theorem nmdEq_iff (x y : Nmd) : nmdEq x y = true ↔ x = y := by
  constructor
  · intro h
    simp only [nmdEq, Bool.and_eq_true, beq_iff_eq, sumEq_iff] at h
    obtain ⟨h0, h1, h2, h3, t0, t1, t2, t3, t4, t5, t6, t7, t8, t9, t10, t11, t12, t13, t14, t15⟩ := h
    have h0 := bytes_eq h0
    have hu : ∀ {a b : UInt8}, (a.toNat : Int) = b.toNat → a = b := fun h => UInt8.toNat_inj.1 (by omega)
    cases x; cases y
    simp only at h0 h1 h2 h3 t0 t1 t2 t3 t4 t5 t6 t7 t8 t9 t10 t11 t12 t13 t14 t15
    subst h0 h1 h2 h3
    have t0 := hu t0; subst t0
    have t1 := hu t1; subst t1
    have t2 := hu t2; subst t2
    have t3 := hu t3; subst t3
    have t4 := hu t4; subst t4
    have t5 := hu t5; subst t5
    have t6 := hu t6; subst t6
    have t7 := hu t7; subst t7
    have t8 := hu t8; subst t8
    have t9 := hu t9; subst t9
    have t10 := hu t10; subst t10
    have t11 := hu t11; subst t11
    have t12 := hu t12; subst t12
    have t13 := hu t13; subst t13
    have t14 := hu t14; subst t14
    have t15 := hu t15; subst t15
    rfl
  · rintro rfl
    simp [nmdEq, sumEq_iff]
end Go.Proofs.YtoefpcepplgkeaaGreat
end

section
set_option maxRecDepth 100000
set_option linter.unusedVariables false
set_option linter.unusedSimpArgs false
namespace Go.Proofs.YtoefpcepplgkeaaGreat
open Go.RowKit
def nmC (x : Nmd) : Array Value := #[.string x.name, .int .i64 x.number, .int .i64 x.root, .int .i64 x.count, .int .u8 (x.s0.toNat : Int), .int .u8 (x.s1.toNat : Int), .int .u8 (x.s2.toNat : Int), .int .u8 (x.s3.toNat : Int), .int .u8 (x.s4.toNat : Int), .int .u8 (x.s5.toNat : Int), .int .u8 (x.s6.toNat : Int), .int .u8 (x.s7.toNat : Int), .int .u8 (x.s8.toNat : Int), .int .u8 (x.s9.toNat : Int), .int .u8 (x.s10.toNat : Int), .int .u8 (x.s11.toNat : Int), .int .u8 (x.s12.toNat : Int), .int .u8 (x.s13.toNat : Int), .int .u8 (x.s14.toNat : Int), .int .u8 (x.s15.toNat : Int)]
def trC (x : Nmd) : Array Value := #[.int .i64 x.root, .int .i64 x.count, .int .u8 (x.s0.toNat : Int), .int .u8 (x.s1.toNat : Int), .int .u8 (x.s2.toNat : Int), .int .u8 (x.s3.toNat : Int), .int .u8 (x.s4.toNat : Int), .int .u8 (x.s5.toNat : Int), .int .u8 (x.s6.toNat : Int), .int .u8 (x.s7.toNat : Int), .int .u8 (x.s8.toNat : Int), .int .u8 (x.s9.toNat : Int), .int .u8 (x.s10.toNat : Int), .int .u8 (x.s11.toNat : Int), .int .u8 (x.s12.toNat : Int), .int .u8 (x.s13.toNat : Int), .int .u8 (x.s14.toNat : Int), .int .u8 (x.s15.toNat : Int)]
def zeroT (x : Nmd) : Bool := (x.root == 0) && ((x.count == 0) && sumEq (x.s0.toNat : Int) (x.s1.toNat : Int) (x.s2.toNat : Int) (x.s3.toNat : Int) (x.s4.toNat : Int) (x.s5.toNat : Int) (x.s6.toNat : Int) (x.s7.toNat : Int) (x.s8.toNat : Int) (x.s9.toNat : Int) (x.s10.toNat : Int) (x.s11.toNat : Int) (x.s12.toNat : Int) (x.s13.toNat : Int) (x.s14.toNat : Int) (x.s15.toNat : Int) 0 0 0 0 0 0 0 0 0 0 0 0 0 0 0 0)
def zNm : Nmd := ⟨⟨#[]⟩, 0, 0, 0, 0, 0, 0, 0, 0, 0, 0, 0, 0, 0, 0, 0, 0, 0, 0, 0⟩
def rightB (x : Nmd) : Bool := decide (1 ≤ x.number) && decide (x.number ≤ 255) && (zeroT x || (decide (2 ≤ x.root) && decide (x.root < 4096) && decide (1 ≤ x.count) && decide (x.count < 2147483648)))
theorem size5 : (Tryz.prog.info? 5).map (·.size) = some 1 := by kernel_rfl
theorem size25 : (Tryz.prog.info? 25).map (·.size) = some 18 := by kernel_rfl
theorem size27 : (Tryz.prog.info? 27).map (·.size) = some 20 := by kernel_rfl
theorem nm_size (x : Nmd) : (nmC x).size = 20 := rfl
theorem tr_size (x : Nmd) : (trC x).size = 18 := rfl
theorem nm_0 (x : Nmd) : (nmC x)[0]? = some (.string x.name) := rfl
theorem nm_1 (x : Nmd) : (nmC x)[1]? = some (.int .i64 x.number) := rfl
theorem nm_2 (x : Nmd) : (nmC x)[2]? = some (.int .i64 x.root) := rfl
theorem nm_3 (x : Nmd) : (nmC x)[3]? = some (.int .i64 x.count) := rfl
theorem tr_0 (x : Nmd) : (trC x)[0]? = some (.int .i64 x.root) := rfl
theorem tr_1 (x : Nmd) : (trC x)[1]? = some (.int .i64 x.count) := rfl
theorem nm_tr (x : Nmd) : ∀ j v, (trC x).toList[j]? = some v → (nmC x)[2 + j]? = some v := by
  intro j v hv
  have h : (nmC x).toList.drop 2 = (trC x).toList := rfl
  rw [← h, List.getElem?_drop] at hv
  simpa using hv
theorem nm_one (x : Nmd) : (nmC x).all (·.oneCell') = true := by simp [nmC, Value.oneCell']
theorem tr_one (x : Nmd) : (trC x).all (·.oneCell') = true := by simp [trC, Value.oneCell']
theorem eqT0 (d : Nat) (w : World) (x : Nmd) : (Op.equalIn (d + 3) 25 (.agg (trC x)) (.agg #[.int .i64 0, .int .i64 0, .int .u8 0, .int .u8 0, .int .u8 0, .int .u8 0, .int .u8 0, .int .u8 0, .int .u8 0, .int .u8 0, .int .u8 0, .int .u8 0, .int .u8 0, .int .u8 0, .int .u8 0, .int .u8 0, .int .u8 0, .int .u8 0])).run Tryz.prog w = .ok (zeroT x) w := eqTree d w _ _ _ _ _ _ _ _ _ _ _ _ _ _ _ _ _ _ _ _ _ _ _ _ _ _ _ _ _ _ _ _ _ _ _ _
theorem eqNm (d : Nat) (w : World) (x y : Nmd) : (Op.equalIn (d + 4) 27 (.agg (nmC x)) (.agg (nmC y))).run Tryz.prog w = .ok (nmdEq x y) w := eqNamed d w x y
end Go.Proofs.YtoefpcepplgkeaaGreat
end

section
set_option linter.unusedVariables false
set_option linter.unusedSimpArgs false
namespace Go.Proofs.YtoefpcepplgkeaaGreat
open Go.RowKit
attribute [local go_sem high] eqT0

set_option maxHeartbeats 4000000 in
set_option maxRecDepth 100000 in
theorem isNamed_any (x : Nmd) (w : World) : Calls Tryz.prog 18 #[.agg (nmC x)] w fun e w' => e = .returned (.bool (rightB x)) ∧ Below w.heap.size w w' := by
  obtain ⟨Z, hZ⟩ : ∃ Z, zeroT x = Z := ⟨_, rfl⟩
  obtain ⟨W, hW⟩ : ∃ W, (w.alloc (.cells (nmC x) 27)).alloc (.cells #[.int .i64 0, .int .i64 0, .int .u8 0, .int .u8 0, .int .u8 0, .int .u8 0, .int .u8 0, .int .u8 0, .int .u8 0, .int .u8 0, .int .u8 0, .int .u8 0, .int .u8 0, .int .u8 0, .int .u8 0, .int .u8 0, .int .u8 0, .int .u8 0] 25) = W := ⟨_, rfl⟩
  have hM : W.heap[w.heap.size + 1]? = some (.cells #[.int .i64 0, .int .i64 0, .int .u8 0, .int .u8 0, .int .u8 0, .int .u8 0, .int .u8 0, .int .u8 0, .int .u8 0, .int .u8 0, .int .u8 0, .int .u8 0, .int .u8 0, .int .u8 0, .int .u8 0, .int .u8 0, .int .u8 0, .int .u8 0] 25 (0, 0)) := by rw [← hW]; simpa using bl_new (w.alloc (.cells (nmC x) 27)) (.cells #[.int .i64 0, .int .i64 0, .int .u8 0, .int .u8 0, .int .u8 0, .int .u8 0, .int .u8 0, .int .u8 0, .int .u8 0, .int .u8 0, .int .u8 0, .int .u8 0, .int .u8 0, .int .u8 0, .int .u8 0, .int .u8 0, .int .u8 0, .int .u8 0] 25)
  have hb : Below w.heap.size w (W.setRow (w.heap.size + 1) (trC x)) := by
    rw [← hW]; exact below_setRow (below_alloc (below_alloc (Below.refl _ _) _) _) (by omega) _
  have hL := cells_at (bl_new w (.cells (nmC x) 27)) 2 (nm_tr x)
  obtain ⟨hc1, hc2⟩ := row_cells (cs := trC x) hM
  have hR := cells_all (setRow_heap _ _ _ (trC x) _ _ hM)
  have hn : ¬ w.heap.size = w.heap.size + 1 := by omega
  have hd0 : W.cell? ⟨w.heap.size, 1, none⟩ = some (.int .i64 x.number) := by rw [← hW, bl_cell (bl_alloc (bl_new w _) _) 1]; exact nm_1 x
  have hd1 := (hc2 w.heap.size 1 hn).trans hd0
  have he0 := (hc1 0).trans (tr_0 x)
  have he1 := (hc1 1).trans (tr_1 x)
  clear hd0 hc2 hn hc1
  obtain ⟨V, hV⟩ : ∃ V, W.setRow (w.heap.size + 1) (trC x) = V := ⟨_, rfl⟩
  rw [hV] at he0 he1 hd1 hb hR
  have hM0 := Lib.hid hM
  have hW0 := Lib.hid hW
  have hV0 := Lib.hid hV
  have hL0 := Lib.hid hL
  have hR0 := Lib.hid hR
  clear hM hW hV hL hR
  go_enter Tryz.func18, Tryz.ntmps18
  go_wp2_with ((with_reducible refine stop_load 25 (.tmp 4) ?hst ?_); (case hst => rfl))
  change wpList _ _ _ _ _ _
  refine wpList_loadC _ 25 (.tmp 4) (by rfl) (by rfl) ⟨w.heap.size, 2, none⟩ (by rfl) (trC x) _ hL0.out Tryz.underlying25 (by rfl) size25 ?_
  go_wp2_with ((with_reducible refine stop_store 25 (.tmp 3) (.tmp 5) ?hst ?_); (case hst => rfl))
  change wpList _ _ _ _ _ _
  rw [hW0.out]
  refine wpList_store_row (by rfl) 25 (.tmp 3) (.tmp 5) (by rfl) (w.heap.size + 1) (trC x) (by rfl) (by rfl) 25 _ hM0.out size25 (by rfl) (tr_one x) ?_
  rw [hV0.out]
  clear hM0 hW0 hV0 hL0
  by_cases h1 : 1 ≤ x.number
  · by_cases h2 : x.number ≤ 255
    · cases Z
      · by_cases h3 : 2 ≤ x.root
        · by_cases h4 : x.root < 4096
          · by_cases h5 : 1 ≤ x.count
            · by_cases h6 : x.count < 2147483648
              · go_wp2_with ((with_reducible refine stop_load 25 (.tmp 3) ?hst ?_); (case hst => rfl))
                change wpList _ _ _ _ _ _
                refine wpList_loadC _ 25 (.tmp 3) (by rfl) (by rfl) ⟨w.heap.size + 1, 0, none⟩ (by rfl) (trC x) _ hR0.out Tryz.underlying25 (by rfl) size25 ?_
                go_wp2
                go_ret
                exact ⟨ret_bool (by simp [rightB, hZ, *]; try omega), hb⟩
              · go_wp2_with ((with_reducible refine stop_load 25 (.tmp 3) ?hst ?_); (case hst => rfl))
                change wpList _ _ _ _ _ _
                refine wpList_loadC _ 25 (.tmp 3) (by rfl) (by rfl) ⟨w.heap.size + 1, 0, none⟩ (by rfl) (trC x) _ hR0.out Tryz.underlying25 (by rfl) size25 ?_
                go_wp2
                go_ret
                exact ⟨ret_bool (by simp [rightB, hZ, *]; try omega), hb⟩
            · go_wp2_with ((with_reducible refine stop_load 25 (.tmp 3) ?hst ?_); (case hst => rfl))
              change wpList _ _ _ _ _ _
              refine wpList_loadC _ 25 (.tmp 3) (by rfl) (by rfl) ⟨w.heap.size + 1, 0, none⟩ (by rfl) (trC x) _ hR0.out Tryz.underlying25 (by rfl) size25 ?_
              go_wp2
              go_ret
              exact ⟨ret_bool (by simp [rightB, hZ, *]; try omega), hb⟩
          · go_wp2_with ((with_reducible refine stop_load 25 (.tmp 3) ?hst ?_); (case hst => rfl))
            change wpList _ _ _ _ _ _
            refine wpList_loadC _ 25 (.tmp 3) (by rfl) (by rfl) ⟨w.heap.size + 1, 0, none⟩ (by rfl) (trC x) _ hR0.out Tryz.underlying25 (by rfl) size25 ?_
            go_wp2
            go_ret
            exact ⟨ret_bool (by simp [rightB, hZ, *]; try omega), hb⟩
        · go_wp2_with ((with_reducible refine stop_load 25 (.tmp 3) ?hst ?_); (case hst => rfl))
          change wpList _ _ _ _ _ _
          refine wpList_loadC _ 25 (.tmp 3) (by rfl) (by rfl) ⟨w.heap.size + 1, 0, none⟩ (by rfl) (trC x) _ hR0.out Tryz.underlying25 (by rfl) size25 ?_
          go_wp2
          go_ret
          exact ⟨ret_bool (by simp [rightB, hZ, *]; try omega), hb⟩
      · go_wp2_with ((with_reducible refine stop_load 25 (.tmp 3) ?hst ?_); (case hst => rfl))
        change wpList _ _ _ _ _ _
        refine wpList_loadC _ 25 (.tmp 3) (by rfl) (by rfl) ⟨w.heap.size + 1, 0, none⟩ (by rfl) (trC x) _ hR0.out Tryz.underlying25 (by rfl) size25 ?_
        go_wp2
        go_ret
        exact ⟨ret_bool (by simp [rightB, hZ, *]; try omega), hb⟩
    · go_wp2
      go_ret
      exact ⟨ret_bool (by simp [rightB, hZ, *]; try omega), hb⟩
  · go_wp2
    go_ret
    exact ⟨ret_bool (by simp [rightB, hZ, *]; try omega), hb⟩

set_option maxHeartbeats 4000000 in
set_option maxRecDepth 100000 in
theorem right_any (x : Nmd) (w : World) : Calls Tryz.prog 22 #[.agg (nmC x)] w fun e w' => e = .returned (.bool (rightB x)) ∧ Below w.heap.size w w' := by
  obtain ⟨Z, hZ⟩ : ∃ Z, zeroT x = Z := ⟨_, rfl⟩
  have hb : Below w.heap.size w (w.alloc (.cells (nmC x) 27)) := below_alloc (Below.refl _ _) _
  have n1 := nm_1 x
  have n2 := nm_2 x
  have n3 := nm_3 x
  have hL0 := Lib.hid (cells_at (bl_new w (.cells (nmC x) 27)) 2 (nm_tr x))
  go_enter Tryz.func22, Tryz.ntmps22
  by_cases h1 : 1 ≤ x.number
  · by_cases h2 : x.number ≤ 255
    · cases Z
      · by_cases h3 : 2 ≤ x.root
        · by_cases h4 : x.root < 4096
          · by_cases h5 : 1 ≤ x.count
            · by_cases h6 : x.count < 2147483648
              · go_wp2_with ((with_reducible refine stop_load 25 (.tmp 11) ?hst ?_); (case hst => rfl))
                change wpList _ _ _ _ _ _
                refine wpList_loadC _ 25 (.tmp 11) (by rfl) (by rfl) ⟨w.heap.size, 2, none⟩ (by rfl) (trC x) _ hL0.out Tryz.underlying25 (by rfl) size25 ?_
                go_wp2
                go_ret
                exact ⟨ret_bool (by simp [rightB, hZ, *]; try omega), hb⟩
              · go_wp2_with ((with_reducible refine stop_load 25 (.tmp 11) ?hst ?_); (case hst => rfl))
                change wpList _ _ _ _ _ _
                refine wpList_loadC _ 25 (.tmp 11) (by rfl) (by rfl) ⟨w.heap.size, 2, none⟩ (by rfl) (trC x) _ hL0.out Tryz.underlying25 (by rfl) size25 ?_
                go_wp2
                go_ret
                exact ⟨ret_bool (by simp [rightB, hZ, *]; try omega), hb⟩
            · go_wp2_with ((with_reducible refine stop_load 25 (.tmp 11) ?hst ?_); (case hst => rfl))
              change wpList _ _ _ _ _ _
              refine wpList_loadC _ 25 (.tmp 11) (by rfl) (by rfl) ⟨w.heap.size, 2, none⟩ (by rfl) (trC x) _ hL0.out Tryz.underlying25 (by rfl) size25 ?_
              go_wp2
              go_ret
              exact ⟨ret_bool (by simp [rightB, hZ, *]; try omega), hb⟩
          · go_wp2_with ((with_reducible refine stop_load 25 (.tmp 11) ?hst ?_); (case hst => rfl))
            change wpList _ _ _ _ _ _
            refine wpList_loadC _ 25 (.tmp 11) (by rfl) (by rfl) ⟨w.heap.size, 2, none⟩ (by rfl) (trC x) _ hL0.out Tryz.underlying25 (by rfl) size25 ?_
            go_wp2
            go_ret
            exact ⟨ret_bool (by simp [rightB, hZ, *]; try omega), hb⟩
        · go_wp2_with ((with_reducible refine stop_load 25 (.tmp 11) ?hst ?_); (case hst => rfl))
          change wpList _ _ _ _ _ _
          refine wpList_loadC _ 25 (.tmp 11) (by rfl) (by rfl) ⟨w.heap.size, 2, none⟩ (by rfl) (trC x) _ hL0.out Tryz.underlying25 (by rfl) size25 ?_
          go_wp2
          go_ret
          exact ⟨ret_bool (by simp [rightB, hZ, *]; try omega), hb⟩
      · go_wp2_with ((with_reducible refine stop_load 25 (.tmp 11) ?hst ?_); (case hst => rfl))
        change wpList _ _ _ _ _ _
        refine wpList_loadC _ 25 (.tmp 11) (by rfl) (by rfl) ⟨w.heap.size, 2, none⟩ (by rfl) (trC x) _ hL0.out Tryz.underlying25 (by rfl) size25 ?_
        go_wp2
        go_ret
        exact ⟨ret_bool (by simp [rightB, hZ, *]; try omega), hb⟩
    · go_wp2
      go_ret
      exact ⟨ret_bool (by simp [rightB, hZ, *]; try omega), hb⟩
  · go_wp2
    go_ret
    exact ⟨ret_bool (by simp [rightB, hZ, *]; try omega), hb⟩
end Go.Proofs.YtoefpcepplgkeaaGreat
end
