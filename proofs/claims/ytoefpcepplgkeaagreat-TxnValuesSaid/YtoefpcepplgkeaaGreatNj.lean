/- The plain laws of the catalog's values: what PutNamed and GetNamed compute is inverse to each other. -/
import Derived.Test.YtoefpcepplgkeaaGreatNi
section
set_option linter.unusedVariables false
set_option linter.unusedSimpArgs false
namespace Go.Proofs.YtoefpcepplgkeaaGreat
open Go.RowKit
theorem byteOf_nat (b : UInt8) : byteOf (b.toNat : Int) = b := by
  apply UInt8.toNat_inj.1
  have h := byteOf_toNat (b.toNat : Int)
  have := UInt8.toNat_lt b
  omega
theorem be4_num4 (a b c d : UInt8) : be4 (num4 a b c d : Int) = [a, b, c, d] := by
  have ha := UInt8.toNat_lt a
  have hb := UInt8.toNat_lt b
  have hc := UInt8.toNat_lt c
  have hd := UInt8.toNat_lt d
  have key : ∀ (z : Int) (e : UInt8), z % 256 = (e.toNat : Int) → byteOf z = e := fun z e h => UInt8.toNat_inj.1 (by have h2 := byteOf_toNat z; omega)
  unfold be4 num4
  rw [key _ a (by omega), key _ b (by omega), key _ c (by omega), key _ d (by omega)]
theorem num4_be4 (n : Int) (h0 : 0 ≤ n) (h1 : n < 4294967296) : (num4 (byteOf (n / 16777216)) (byteOf (n / 65536)) (byteOf (n / 256)) (byteOf n) : Int) = n := by
  unfold num4
  have e1 := byteOf_toNat (n / 16777216)
  have e2 := byteOf_toNat (n / 65536)
  have e3 := byteOf_toNat (n / 256)
  have e4 := byteOf_toNat n
  omega
theorem right_small {x : Nmd} (h : rightB x = true) : (1 ≤ x.number ∧ x.number ≤ 255) ∧ (0 ≤ x.root ∧ x.root < 4096) ∧ (0 ≤ x.count ∧ x.count < 2147483648) := by
  simp only [rightB, zeroT, Bool.and_eq_true, Bool.or_eq_true, beq_iff_eq, decide_eq_true_eq] at h
  rcases h.2 with ⟨h1, h2, -⟩ | h1
  · omega
  · omega
theorem put_ok {x : Nmd} (h : putE x = 0) : nameB x.name = true ∧ rightB x = true := by
  unfold putE at h
  split at h
  · exact ⟨‹_›, ‹_›⟩
  · cases h
/-- GetNamed of what PutNamed returns. -/
theorem get_put {x : Nmd} (h : putE x = 0) : getE x.name (putS x) = 0 ∧ getR x.name (putS x) = x := by
  obtain ⟨h1, h2⟩ := put_ok h
  obtain ⟨⟨a1, a2⟩, ⟨b1, b2⟩, c1, c2⟩ := right_small h2
  have hs : putS x = ⟨⟨putL x⟩⟩ := by unfold putS; rw [if_pos h]
  have hx : getX x.name (putL x) = x := by
    have e0 := byteOf_toNat x.number
    have e1 := num4_be4 x.root b1 (by omega)
    have e2 := num4_be4 x.count c1 (by omega)
    have e3 : ((byteOf x.number).toNat : Int) = x.number := by omega
    show (⟨x.name, (byteOf x.number).toNat, (num4 _ _ _ _ : Nat), (num4 _ _ _ _ : Nat), _, _, _, _, _, _, _, _, _, _, _, _, _, _, _, _⟩ : Nmd) = x
    rw [e1, e2, e3]
  have he : getE x.name (putS x) = 0 := by
    unfold getE
    rw [hs, h1]
    show (match true, decide ((ByteArray.mk ⟨putL x⟩).size = 25), rightB (getX x.name (putL x)) with
      | false, _, _ => (2 : Int)
      | true, true, true => 0
      | _, _, _ => 8) = 0
    rw [hx, h2]
    rfl
  refine ⟨he, ?_⟩
  unfold getR
  rw [if_pos he, hs]
  exact hx
theorem getX_name {name : ByteArray} {l : List UInt8} (h : l.length = 25) : (getX name l).name = name := by
  obtain ⟨v0, v1, v2, v3, v4, v5, v6, v7, v8, v9, v10, v11, v12, v13, v14, v15, v16, v17, v18, v19, v20, v21, v22, v23, v24, rfl⟩ := ex25 h
  rfl
/-- PutNamed of what GetNamed returns. -/
theorem put_get {name v : ByteArray} (h : getE name v = 0) : (getR name v).name = name ∧ putE (getR name v) = 0 ∧ putS (getR name v) = v := by
  have h0 := h
  unfold getE at h
  split at h
  · cases h
  · rename_i h1 h2 h3
    have hv : v.size = 25 := of_decide_eq_true h2
    obtain ⟨⟨l⟩⟩ := v
    have hl : l.length = 25 := hv
    have hr : getR name ⟨⟨l⟩⟩ = getX name l := by unfold getR; rw [if_pos h0]
    have hn := getX_name (name := name) hl
    rw [hr]
    have hp : putE (getX name l) = 0 := by
      unfold putE
      rw [hn, h1]
      show (match true, rightB (getX name l) with | true, true => (0 : Int) | _, _ => 2) = 0
      rw [show rightB (getX name l) = true from h3]
    refine ⟨hn, hp, ?_⟩
    unfold putS
    rw [if_pos hp]
    obtain ⟨v0, v1, v2, v3, v4, v5, v6, v7, v8, v9, v10, v11, v12, v13, v14, v15, v16, v17, v18, v19, v20, v21, v22, v23, v24, rfl⟩ := ex25 hl
    have hL : putL (getX name [v0, v1, v2, v3, v4, v5, v6, v7, v8, v9, v10, v11, v12, v13, v14, v15, v16, v17, v18, v19, v20, v21, v22, v23, v24]) = [v0, v1, v2, v3, v4, v5, v6, v7, v8, v9, v10, v11, v12, v13, v14, v15, v16, v17, v18, v19, v20, v21, v22, v23, v24] := by
      show byteOf (v0.toNat : Int) :: (be4 (num4 v1 v2 v3 v4 : Int) ++ (be4 (num4 v5 v6 v7 v8 : Int) ++ _)) = _
      rw [byteOf_nat, be4_num4, be4_num4]
      rfl
    rw [hL]
  · cases h
theorem nmdEq_refl (x : Nmd) : nmdEq x x = true := (nmdEq_iff x x).2 rfl
end Go.Proofs.YtoefpcepplgkeaaGreat
end
