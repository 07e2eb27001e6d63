/- Operations that read: what the abstract one gives, the true one gives. More operations that read. More operations that read: slices, lengths, maps, assertions, conversions. More operations that read: conversions; all of them. Operations that lay one row. -/
import Derived.Test.YtoefpcepplgkeaaGreatMb
import Derived.Orders
import Derived.Laws.Entries
import Derived.Laws.Tables
import Derived.Lib.UnsafeStr
import Derived.Laws.BytesArg
import Derived.Laws.MakeOwn
section
set_option linter.unusedVariables false
set_option linter.unusedSimpArgs false
namespace Go.Ev
open Go Go.RowKit
/-- A type's entry in the table. -/
structure TyOk (P : Program) (t : TypeId) (i : TI) : Prop where
  d : P.underlying t = some i.d
  agg : i.agg = (match i.d with | .struct _ | .array _ _ => true | _ => false)
  inf : ∃ inf z, P.info? t = some inf ∧ inf.size = i.size ∧ inf.bytes = i.bytes ∧ inf.zero = some z ∧ z.cells.toList = i.zero ∧ (i.agg = true → z = .agg i.zero.toArray) ∧ (i.agg = false → i.zero = [z])
  len : i.zero.length = i.size
  ok : allOk i.zero = true
  flat : i.zero.all flat1 = true
  ms : ∀ n g, findM i.ms n = some g → ∀ v w, (method (P.types.size + Made.depth) t v n).run P w = .ok (g, v) w
def ExOk (P : Program) (g : FuncId) : Ex → Prop
  | .mapsClone => ∀ args w, (callFunc g args).run P w = ((Extern.MapsClone.clone args).run P w).andThen fun v w => .ok (.value v) w
  | .ident => ∀ x w, (callFunc g #[x]).run P w = .ok (.value x) w
structure TbOk (b : Tb) : Prop where
  fn : ∀ f i, b.f f = some i → ∃ fn, b.P.funcs[f]? = some fn ∧ fn.body = some i.body ∧ fn.ntmps = i.nt ∧ fn.results.toList = i.res
  ty : ∀ t i, b.i t = some i → TyOk b.P t i
  ex : ∀ g x, findX b.ex g = some x → ExOk b.P g x
  en : ∀ f i, b.f f = some i → ∀ args w, (callFunc f args).run b.P w = .ok (.enter f args) w
  mixed : b.P.follows .mixedOrders = true
/-- An operation that reads. -/
def PuOK (b : Tb) (o : Oper) (p : PuR) : Prop := ∀ (w0 : World) (ρ : Rho) (h : H) (w : World) (f : AF) (e : Operand → Value) (v : Value),
  HR w0 ρ h w → (∀ x ∈ o.op.operands.toList, V ρ (f.eval x) (e x)) → p b f o h = some v → ∃ v', (execOp e o).run b.P w = .ok (.value v') w ∧ V ρ v v'
section
variable {ρ : Rho}
theorem V.ptr_inv {a : Addr} {v' : Value} (h : V ρ (.pointer (some a)) v') : ∃ L, ρ a.block = some L ∧ a.spot = none ∧ v' = .pointer (some ⟨L.b, L.d + a.off, none⟩) := by
  cases h with
  | ptr h hs ha => exact ⟨_, h, hs, by rw [ha]⟩
theorem V.int_inv {k : IntKind} {n : Int} {v' : Value} (h : V ρ (.int k n) v') : v' = .int k n := by cases h; rfl
theorem V.bool_inv {b : Bool} {v' : Value} (h : V ρ (.bool b) v') : v' = .bool b := by cases h; rfl
theorem V.string_inv {s : ByteArray} {v' : Value} (h : V ρ (.string s) v') : v' = .string s := by cases h; rfl
/-- A slice that is not nil: where it lies, if it has elements (or its capacity is known). -/
theorem V.slice_inv {a : Addr} {n c : Nat} {v' : Value} (h : V ρ (.slice (some a) n c) v') : ∃ L a' c', ρ a.block = some L ∧ a.spot = none ∧ v' = .slice (some a') n c' ∧
    ((c < UNK ∧ c' = c ∧ a' = ⟨L.b, L.d + a.off, none⟩) ∨ (UNK ≤ c ∧ c - UNK ≤ c' ∧ n ≤ c - UNK ∧ (c' = 0 ∨ (a' = ⟨L.b, L.d + a.off, none⟩ ∧ L.d + a.off + c' * L.st ≤ L.E)))) := by
  cases h with
  | sliceK h hs ha hc => exact ⟨_, _, _, h, hs, rfl, .inl ⟨hc, rfl, ha⟩⟩
  | sliceU h hs hc hc' hn ha => exact ⟨_, _, _, h, hs, rfl, .inr ⟨hc, hc', hn, ha⟩⟩
theorem V.slice_pos {a : Addr} {n c : Nat} {v' : Value} (h : V ρ (.slice (some a) n c) v') (hn : 0 < n) : ∃ L c', ρ a.block = some L ∧ a.spot = none ∧ v' = .slice (some ⟨L.b, L.d + a.off, none⟩) n c' ∧ (c < UNK → c' = c) ∧ (0 < c' ∨ c < UNK) := by
  obtain ⟨L, a', c', h1, h2, h3, h4⟩ := h.slice_inv
  rcases h4 with ⟨h5, h6, h7⟩ | ⟨h5, h6, h7, h8⟩
  · exact ⟨L, c', h1, h2, by rw [h3, h7], fun _ => h6, .inr h5⟩
  · rcases h8 with h8 | ⟨h8, _⟩
    · omega
    · exact ⟨L, c', h1, h2, by rw [h3, h8], fun hh => by omega, .inl (by omega)⟩
theorem V.zero {P : Program} {t : TypeId} {i : TI} (h : TyOk P t i) : VL ρ i.zero i.zero := by
  refine VL.of_get rfl fun j v v' hv hv' => ?_
  rw [hv] at hv'
  cases hv'
  exact V.of_flat1 ρ (List.all_eq_true.1 h.flat v (List.mem_of_getElem? hv))
theorem prun_ok {α : Type} (P : Program) : ∀ (s : Sem α) (w : World), (∀ a, prun P s = some (.ok a) → s.run P w = .ok a w) ∧ (∀ v, prun P s = some (.error v) → s.run P w = .halt (.panic v) w) := by
  intro s
  induction s with
  | pure a => intro w; exact ⟨fun x hx => by simp [prun] at hx; rw [hx]; rfl, fun v hv => by simp [prun] at hv⟩
  | program k ih =>
    intro w
    refine ⟨fun x hx => ?_, fun x hx => ?_⟩
    · exact (ih P w).1 x (by simpa [prun] using hx)
    · exact (ih P w).2 x (by simpa [prun] using hx)
  | mark m k ih =>
    intro w
    cases m with
    | extern f =>
      refine ⟨fun x hx => ?_, fun x hx => ?_⟩
      · exact (ih w).1 x (by simpa [prun] using hx)
      · exact (ih w).2 x (by simpa [prun] using hx)
    | _ => exact ⟨fun x hx => by simp [prun] at hx, fun v hv => by simp [prun] at hv⟩
  | halt h =>
    intro w
    cases h with
    | panic v => exact ⟨fun x hx => by simp [prun] at hx, fun x hx => by simp [prun] at hx; rw [hx]; rfl⟩
    | _ => exact ⟨fun x hx => by simp [prun] at hx, fun v hv => by simp [prun] at hv⟩
  | _ => intro w; exact ⟨fun x hx => by simp [prun] at hx, fun v hv => by simp [prun] at hv⟩
theorem flatOps_mem {f : AF} : ∀ {l : List Operand}, flatOps f l = true → ∀ x ∈ l, flat (f.eval x) = true
  | [], _, x, hx => by simp at hx
  | y :: r, h, x, hx => by
    simp only [flatOps, Bool.and_eq_true] at h
    rcases List.mem_cons.1 hx with rfl | hx
    · exact h.1
    · exact flatOps_mem h.2 x hx
/-- Operands without addresses: the same operation. -/
theorem exec_flat {f : AF} {e : Operand → Value} {o : Oper} (hs : ∀ cs b, o.op ≠ .select cs b) (he : ∀ x ∈ o.op.operands.toList, V ρ (f.eval x) (e x)) (hf : flatOps f o.op.operands.toList = true) : execOp e o = execOp f.eval o :=
  execOp_congr o hs fun x hx => (he x (by simpa using hx)).flat (flatOps_mem hf x (by simpa using hx))
variable {b : Tb} {o : Oper}
theorem pu_gen_some {f : AF} {h : H} {v : Value} (hp : pu_gen b f o h = some v) : flatOps f o.op.operands.toList = true ∧ prun b.P (execOp f.eval o) = some (.ok (.value v)) ∧ flat v = true := by
  unfold pu_gen at hp
  split at hp
  · rename_i h1
    split at hp
    · rename_i u h2
      split at hp
      · rename_i h3; cases hp; exact ⟨h1, h2, h3⟩
      · cases hp
    · cases hp
  · cases hp
theorem pu_gen_ok (hs : ∀ cs b, o.op ≠ .select cs b) : PuOK b o pu_gen := by
  intro w0 ρ h w f e v hr he hp
  obtain ⟨h1, h2, h3⟩ := pu_gen_some hp
  exact ⟨v, by rw [exec_flat hs he h1]; exact (prun_ok b.P _ w).1 _ h2, V.of_flat ρ h3⟩
theorem pu_move_ok {x : Operand} (ho : o.op = .move x) : PuOK b o (pu_move x) := by
  intro w0 ρ h w f e v hr he hp
  simp only [pu_move, Option.some.injEq] at hp
  subst hp
  exact ⟨e x, by simp [execOp, ho], he x (by simp [ho, Op.operands])⟩
theorem pu_pick_ok {c x y : Operand} (ho : o.op = .pick c x y) : PuOK b o (pu_pick c x y) := by
  intro w0 ρ h w f e v hr he hp
  have hc := he c (by simp [ho, Op.operands])
  have hx := he x (by simp [ho, Op.operands])
  have hy := he y (by simp [ho, Op.operands])
  unfold pu_pick at hp
  split at hp
  · rename_i h1; rw [h1] at hc; cases hp; exact ⟨e x, by simp [execOp, ho, hc.bool_inv, asBool], hx⟩
  · rename_i h1; rw [h1] at hc; cases hp; exact ⟨e y, by simp [execOp, ho, hc.bool_inv, asBool], hy⟩
  · cases hp
theorem run_isAgg {P : Program} {t : TypeId} {i : TI} (h : TyOk P t i) (w : World) : (isAgg t).run P w = .ok i.agg w := by
  unfold isAgg
  rw [Sem.run_bind, run_underlying h.d w, h.agg]
  cases i.d <;> rfl
theorem run_sizeOf {P : Program} {t : TypeId} {i : TI} (h : TyOk P t i) (w : World) : (sizeOf t).run P w = .ok i.size w := by
  obtain ⟨inf, z, h1, h2, h3, h4, h5, h6, h7⟩ := h.inf
  simp [sizeOf, typeInfo, h1, h2]
theorem run_zeroValue {P : Program} {t : TypeId} {i : TI} (h : TyOk P t i) (w : World) : ∃ z, (zeroValue t).run P w = .ok z w ∧ z.cells.toList = i.zero ∧ (i.agg = true → z = .agg i.zero.toArray) ∧ (i.agg = false → i.zero = [z]) := by
  obtain ⟨inf, z, h1, h2, h3, h4, h5, h6, h7⟩ := h.inf
  exact ⟨z, by simp [zeroValue, typeInfo, h1, h4], h5, h6, h7⟩
theorem run_loadVar {P : Program} {t : TypeId} {i : TI} (hi : TyOk P t i) {w0 : World} {h : H} {w : World} (hr : HR w0 ρ h w) {a : Addr} {L : Loc} {v : Value} (hp : ρ a.block = some L) (hl : loadAs h a i = some v) :
    ∃ v', (loadVar t ⟨L.b, L.d + a.off, none⟩).run P w = .ok v' w ∧ V ρ v v' := by
  unfold loadAs at hl
  split at hl
  · rename_i hagg
    split at hl
    · rename_i l hc
      cases hl
      obtain ⟨l', h1, h2, h3, h4, h5⟩ := hr.loadCells P hp hc
      refine ⟨.agg l'.toArray, ?_, V.agg_mk (by simpa using h1)⟩
      simp [loadVar, run_isAgg hi, hagg, run_sizeOf hi, h4]
    · cases hl
  · rename_i hagg
    split at hl
    · rename_i x hx
      obtain ⟨h1, v', h2, h3⟩ := hr.cell hp hx hl
      refine ⟨v', ?_, h2⟩
      simp [loadVar, run_isAgg hi, hagg, h3]
    · cases hl
theorem pu_load_ok (B : TbOk b) {t : TypeId} {a : Operand} (ho : o.op = .load t a) : PuOK b o (pu_load t a) := by
  intro w0 ρ h w f e v hr he hp
  have ha := he a (by simp [ho, Op.operands])
  unfold pu_load at hp
  split at hp
  · rename_i ad i h1 h2
    rw [h1] at ha
    obtain ⟨L, h3, h4, h5⟩ := ha.ptr_inv
    obtain ⟨v', h6, h7⟩ := run_loadVar (B.ty t i h2) hr h3 hp
    exact ⟨v', by simp [execOp, ho, h5, Instr.loadAt, Instr.sureAddr, h6], h7⟩
  · cases hp
theorem fieldOf_eq : ∀ (l : List Field) (j : Nat), fieldOf l j = l[j]?
  | [], j => by simp [fieldOf]
  | x :: r, 0 => rfl
  | x :: r, j + 1 => by simp [fieldOf, fieldOf_eq r j]
theorem addr_add (b o n : Nat) : (⟨b, o, none⟩ : Addr).add n = ⟨b, o + n, none⟩ := Addr.add_lit b o n
theorem pu_fieldAddr_ok (B : TbOk b) {s : TypeId} {x : Operand} {j : Nat} (ho : o.op = .fieldAddr s x j) : PuOK b o (pu_fieldAddr s x j) := by
  intro w0 ρ h w f e v hr he hp
  have ha := he x (by simp [ho, Op.operands])
  unfold pu_fieldAddr at hp
  split at hp
  case h_2 => cases hp
  rename_i ad fs _ _ _ _ _ h1 h2
  rw [h1] at ha
  obtain ⟨L, h3, h4, h5⟩ := ha.ptr_inv
  have hd := (B.ty _ _ h2).d
  split at hp
  case h_2 => cases hp
  rename_i fd h6
  rw [fieldOf_eq] at h6
  split at hp
  case h_2 => cases hp
  rename_i i h7
  split at hp
  case h_1 => cases hp
  rename_i n h8
  cases hp
  have hsz := run_sizeOf (B.ty _ _ h7) w
  refine ⟨.pointer (some ⟨L.b, L.d + (ad.off + fd.offset), none⟩), ?_, .ptr h3 rfl rfl⟩
  have h6' : fs[j]? = some fd := by simpa using h6
  simp [execOp, ho, h5, Instr.fieldAt, run_underlying hd, h6', Instr.sureAddr, fieldPlace, hsz, h8, addr_add, Nat.add_assoc]
theorem run_part {P : Program} {t : TypeId} {i : TI} (hi : TyOk P t i) {cs cs' : Array Value} {off : Nat} {v : Value} (w : World) (hv : VL ρ cs.toList cs'.toList) (hp : partAs cs.toList off i = some v) :
    ∃ v', (part t cs' off).run P w = .ok v' w ∧ V ρ v v' := by
  unfold partAs at hp
  split at hp
  · rename_i hagg
    split at hp
    · rename_i l hl
      cases hp
      rw [ldrop_eq] at hl
      obtain ⟨h1, rfl⟩ := ltake_eq _ _ hl
      refine ⟨.agg (cs'.extract off (off + i.size)), ?_, V.agg_mk ?_⟩
      · simp [part, run_isAgg hi, hagg, run_sizeOf hi]
      · have := (hv.drop off).take i.size
        simpa [Array.toList_extract, List.extract_eq_take_drop] using this
    · cases hp
  · rename_i hagg
    rw [lget_eq] at hp
    obtain ⟨v', h1, h2⟩ := hv.get hp
    have h1' : cs'[off]? = some v' := by simpa using h1
    exact ⟨v', by simp [part, run_isAgg hi, hagg, h1'], h2⟩
theorem pu_field_ok (B : TbOk b) {s : TypeId} {x : Operand} {j : Nat} (ho : o.op = .field s x j) : PuOK b o (pu_field s x j) := by
  intro w0 ρ h w f e v hr he hp
  have ha := he x (by simp [ho, Op.operands])
  unfold pu_field at hp
  split at hp
  case h_2 => cases hp
  rename_i cs fs _ _ _ _ _ h1 h2
  rw [h1] at ha
  obtain ⟨cs', h3, h4⟩ := ha.agg_inv
  have hd := (B.ty _ _ h2).d
  split at hp
  case h_2 => cases hp
  rename_i fd h6
  rw [fieldOf_eq] at h6
  split at hp
  case h_2 => cases hp
  rename_i i h7
  obtain ⟨v', h8, h9⟩ := run_part (B.ty _ _ h7) w h4 hp
  have h6' : fs[j]? = some fd := by simpa using h6
  exact ⟨v', by simp [execOp, ho, h3, Instr.field, run_underlying hd, h6', asAgg, h8], h9⟩
theorem pu_indexAddr_ok (B : TbOk b) {t : TypeId} {x ix : Operand} (ho : o.op = .indexAddr t x ix) : PuOK b o (pu_indexAddr t x ix) := by
  intro w0 ρ h w f e v hr he hp
  have hx := he x (by simp [ho, Op.operands])
  have hix := he ix (by simp [ho, Op.operands])
  unfold pu_indexAddr at hp
  split at hp
  · rename_i k i el _ _ _ _ _ a n _ h1 h2 h3
    rw [h3] at hx; rw [h1] at hix
    have hd := (B.ty _ _ h2).d
    split at hp
    case h_2 => cases hp
    rename_i ti h4
    split at hp
    case h_2 => cases hp
    rename_i h5 h6
    cases hp
    have h5' : 0 ≤ i := by simpa using h5
    have h6' : i < n := by simpa using h6
    obtain ⟨L, c', h7, h8, h9, _⟩ := hx.slice_pos (by omega)
    refine ⟨.pointer (some ⟨L.b, L.d + (a.off + i.toNat * ti.size), none⟩), ?_, .ptr h7 rfl rfl⟩
    simp [execOp, ho, h9, hix.int_inv, Instr.indexAt, asIntOf, run_underlying hd, h5', h6', run_sizeOf (B.ty _ _ h4), addr_add, Nat.add_assoc]
  · rename_i k i n el _ _ _ _ _ a h1 h2 h3
    rw [h3] at hx; rw [h1] at hix
    have hd := (B.ty _ _ h2).d
    split at hp
    case h_2 => cases hp
    rename_i ti h4
    split at hp
    case h_2 => cases hp
    rename_i h5 h6
    cases hp
    have h5' : 0 ≤ i := by simpa using h5
    have h6' : i < n := by simpa using h6
    obtain ⟨L, h7, h8, h9⟩ := hx.ptr_inv
    refine ⟨.pointer (some ⟨L.b, L.d + (a.off + i.toNat * ti.size), none⟩), ?_, .ptr h7 rfl rfl⟩
    simp [execOp, ho, h9, hix.int_inv, Instr.indexAt, Instr.sureAddr, asIntOf, run_underlying hd, h5', h6', run_sizeOf (B.ty _ _ h4), addr_add, Nat.add_assoc]
  · cases hp
theorem pu_index_ok (B : TbOk b) {t : TypeId} {x ix : Operand} (ho : o.op = .index t x ix) : PuOK b o (pu_index t x ix) := by
  intro w0 ρ h w f e v hr he hp
  have hx := he x (by simp [ho, Op.operands])
  have hix := he ix (by simp [ho, Op.operands])
  unfold pu_index at hp
  split at hp
  · rename_i k i n el _ _ _ _ _ cs h1 h2 h3
    rw [h3] at hx; rw [h1] at hix
    obtain ⟨cs', h10, h11⟩ := hx.agg_inv
    have hd := (B.ty _ _ h2).d
    split at hp
    case h_2 => cases hp
    rename_i ti h4
    split at hp
    case h_2 => cases hp
    rename_i h5 h6
    have h5' : 0 ≤ i := by simpa using h5
    have h6' : i < n := by simpa using h6
    obtain ⟨v', h8, h9⟩ := run_part (B.ty _ _ h4) w h11 hp
    exact ⟨v', by simp [execOp, ho, h10, hix.int_inv, Instr.index, asIntOf, run_underlying hd, h5', h6', run_sizeOf (B.ty _ _ h4), h8], h9⟩
  · rename_i k i _ _ _ _ _ s h1 h2 h3
    rw [h3] at hx; rw [h1] at hix
    have hd := (B.ty _ _ h2).d
    split at hp
    case h_2 => cases hp
    rename_i h5
    split at hp
    case h_2 => cases hp
    rename_i c h6
    cases hp
    have h5' : 0 ≤ i := by simpa using h5
    have h6' : s[i.toNat]? = some c := by
      have h8 : s.data[i.toNat]? = some c := by simpa using h6
      have hlt : i.toNat < s.data.size := (Array.getElem?_eq_some_iff.1 h8).1
      rw [getElem?_pos s i.toNat hlt]
      rw [getElem?_pos s.data i.toNat hlt] at h8
      exact h8
    exact ⟨.int .u8 c.toNat, by simp [execOp, ho, hx.string_inv, hix.int_inv, Instr.index, asIntOf, run_underlying hd, h5', h6'], .int _ _⟩
  · cases hp
theorem pu_extract_ok {x : Operand} {j : Nat} (ho : o.op = .extract x j) : PuOK b o (pu_extract x j) := by
  intro w0 ρ h w f e v hr he hp
  have hx := he x (by simp [ho, Op.operands])
  unfold pu_extract at hp
  split at hp
  · rename_i vs h1
    rw [h1] at hx
    obtain ⟨vs', h2, h3⟩ := hx.tuple_inv
    rw [lget_eq] at hp
    obtain ⟨v', h4, h5⟩ := h3.get hp
    have h4' : vs'[j]? = some v' := by simpa using h4
    exact ⟨v', by simp [execOp, ho, h2, Instr.extract, h4'], h5⟩
  · cases hp
theorem pu_nilCheck_ok {x : Operand} (ho : o.op = .nilCheck x) : PuOK b o (pu_nilCheck x) := by
  intro w0 ρ h w f e v hr he hp
  have hx := he x (by simp [ho, Op.operands])
  unfold pu_nilCheck at hp
  split at hp
  · rename_i a h1
    rw [h1] at hx
    cases hp
    obtain ⟨L, h2, h3, h4⟩ := hx.ptr_inv
    exact ⟨e x, by simp [execOp, ho, h4], hx⟩
  · rename_i g a c h1
    rw [h1] at hx
    cases hp
    obtain ⟨a', c', h2, h3, h4⟩ := hx.func_inv
    exact ⟨e x, by simp [execOp, ho, h2], hx⟩
  · cases hp
theorem VL.map_eval {f : AF} {e : Operand → Value} : ∀ {l : List Operand}, (∀ x ∈ l, V ρ (f.eval x) (e x)) → VL ρ (l.map f.eval) (l.map e)
  | [], _ => .nil
  | x :: r, h => .cons (h x (by simp)) (VL.map_eval fun y hy => h y (by simp [hy]))
theorem pu_makeFunc_ok {fn : Fn} {a c : Array Operand} (ho : o.op = .makeFunc fn a c) : PuOK b o (pu_makeFunc fn a c) := by
  intro w0 ρ h w f e v hr he hp
  unfold pu_makeFunc at hp
  split at hp
  · rename_i g
    cases hp
    refine ⟨.func (.func g) (a.map e) (c.map e), by simp [execOp, ho, Instr.makeFunc], V.func_mk g ?_ ?_⟩
    · simpa using VL.map_eval (ρ := ρ) (f := f) (e := e) (l := a.toList) fun x hx => he x (by simp [ho, Op.operands] at hx ⊢; exact .inl hx)
    · simpa using VL.map_eval (ρ := ρ) (f := f) (e := e) (l := c.toList) fun x hx => he x (by simp [ho, Op.operands] at hx ⊢; exact .inr hx)
  · cases hp
theorem pu_unOp_ok {u : UnOp} {t : TypeId} {x : Operand} (ho : o.op = .unOp u t x) : PuOK b o (pu_unOp u x) := by
  intro w0 ρ h w f e v hr he hp
  have hx := he x (by simp [ho, Op.operands])
  have hgen := pu_gen_ok (b := b) (o := o) (fun cs b => by rw [ho]; simp)
  unfold pu_unOp at hp
  split at hp
  · rename_i h1; rw [h1] at hx; cases hp; exact ⟨.bool false, by simp [execOp, ho, hx.bool_inv, Op.unary], .bool _⟩
  · rename_i h1; rw [h1] at hx; cases hp; exact ⟨.bool true, by simp [execOp, ho, hx.bool_inv, Op.unary], .bool _⟩
  · exact hgen w0 ρ h w f e v hr he hp
theorem pu_makeInterface_ok (B : TbOk b) {t : TypeId} {x : Operand} (ho : o.op = .makeInterface t x) : PuOK b o (pu_makeInterface t x) := by
  intro w0 ρ h w f e v hr he hp
  have hx := he x (by simp [ho, Op.operands])
  unfold pu_makeInterface at hp
  split at hp
  · cases hp
  · rename_i i hne h1
    cases hp
    have hd := (B.ty _ _ h1).d
    refine ⟨.iface t (e x), ?_, .iface t hx⟩
    simp only [execOp, ho, Instr.makeInterface, Sem.run_bind, run_underlying hd, Result.andThen_ok]
    split
    · rename_i ms hms
      exact (hne ms i.size i.agg i.zero i.bytes i.ms (by rw [← hms])).elim
    · rfl
  · cases hp
end
end Go.Ev
end

section
set_option linter.unusedVariables false
set_option linter.unusedSimpArgs false
namespace Go.Ev
open Go Go.RowKit
section
variable {ρ : Rho} {b : Tb} {o : Oper}
/-! ### build -/
theorem fold_put (off : Nat) : ∀ (vs : List Value) (k : Nat) (cells : Array Value), off + k + vs.length ≤ cells.size →
    ((vs.zipIdx k).foldl (fun cs (c, j) => cs.setIfInBounds (off + j) c) cells).toList = cells.toList.take (off + k) ++ vs ++ cells.toList.drop (off + k + vs.length)
  | [], k, cells, _ => by simp
  | v :: r, k, cells, h => by
    simp only [List.zipIdx_cons, List.foldl_cons]
    have h' : off + (k + 1) + r.length ≤ (cells.setIfInBounds (off + k) v).size := by simp at h ⊢; omega
    rw [fold_put off r (k + 1) (cells.setIfInBounds (off + k) v) h']
    have := list_seg_step cells.toList (off + k) v r (by simp at h ⊢; omega)
    simpa [Array.toList_setIfInBounds, Nat.add_assoc] using this
theorem VL.seg {l l' m m' : List Value} (off : Nat) (h : VL ρ l l') (g : VL ρ m m') : VL ρ (l.take off ++ m ++ l.drop (off + m.length)) (l'.take off ++ m' ++ l'.drop (off + m'.length)) := by
  rw [g.length]
  exact ((h.take off).append g).append (h.drop _)
/-- Parts of a value. -/
inductive PL (ρ : Rho) : List (Nat × Value) → List (Nat × Value) → Prop
  | nil : PL ρ [] []
  | cons (i : Nat) {v v' : Value} {l l' : List (Nat × Value)} (h : V ρ v v') (t : PL ρ l l') : PL ρ ((i, v) :: l) ((i, v') :: l')
theorem fill_ok {place place' : Nat → Option (Nat × Nat)} (hpl : ∀ i p, place i = some p → place' i = some p) : ∀ {ps ps' : List (Nat × Value)} {c : List Value} {c' : Array Value} {l : List Value},
    PL ρ ps ps' → VL ρ c c'.toList → fillC place c ps = some l → ∃ l', Instr.fill place' c' ps' = some l' ∧ VL ρ l l'.toList
  | [], _, c, c', l, .nil, hc, h => by simp only [fillC] at h; cases h; exact ⟨c', rfl, hc⟩
  | _, _, c, c', l, .cons i (v := v) (v' := v') (l := r) (l' := r') hv t, hc, h => by
    simp only [fillC] at h
    split at h
    case h_2 => cases h
    rename_i off sz hp
    split at h
    case h_2 => cases h
    rename_i h1 h2
    split at h
    case h_2 => cases h
    rename_i c2 hput
    obtain ⟨h3, rfl⟩ := lput_eq _ _ _ hput
    have hvl := hv.cells h2
    have hlen := hvl.length
    have hcl := hc.length
    have h1' : v.cells.toList.length = sz := by simpa using h1
    simp only [Instr.fill, hpl i _ hp]
    have hs1 : v'.cells.size = sz := by simp at hlen h1'; omega
    have hs2 : off + v'.cells.size ≤ c'.size := by simp at hcl h3 hlen ⊢; omega
    rw [if_neg (by simp only [Bool.or_eq_true, decide_eq_true_eq, not_or, ne_eq, Decidable.not_not]; exact ⟨hs1, by omega⟩)]
    have hf := fold_put off v'.cells.toList 0 c' (by simpa using hs2)
    have hfe : (v'.cells.zipIdx.foldl (fun cs (c, j) => cs.setIfInBounds (off + j) c) c') = ((v'.cells.toList.zipIdx 0).foldl (fun cs (c, j) => cs.setIfInBounds (off + j) c) c') := by
      rw [← Array.foldl_toList, Array.toList_zipIdx]
    rw [hfe]
    refine fill_ok hpl t ?_ h
    rw [hf]
    simpa using VL.seg off hc hvl
theorem evalParts_ok {f : AF} {e : Operand → Value} : ∀ {l : List (Nat × Operand)}, (∀ p ∈ l, V ρ (f.eval p.2) (e p.2)) → PL ρ (evalParts f l) (l.map fun (i, x) => (i, e x))
  | [], _ => .nil
  | (i, x) :: r, h => .cons i (h (i, x) (by simp)) (evalParts_ok fun p hp => h p (by simp [hp]))
theorem placeF_eq {fs : List Field} {j : Nat} {p : Nat × Nat} (B : TbOk b) (hp : placeF b fs j = some p) : ∃ fd i, fs[j]? = some fd ∧ TyOk b.P fd.type i ∧ p = (fd.offset, i.size) := by
  unfold placeF at hp
  split at hp
  · rename_i fd h1
    rw [fieldOf_eq] at h1
    split at hp
    · rename_i i h2
      cases hp
      exact ⟨fd, i, h1, B.ty _ _ h2, rfl⟩
    · cases hp
  · cases hp
theorem TyOk.size {P : Program} {t : TypeId} {i : TI} (h : TyOk P t i) : ∃ inf, P.info? t = some inf ∧ inf.size = i.size := let ⟨inf, _, h1, h2, _⟩ := h.inf; ⟨inf, h1, h2⟩
theorem fieldsIn_places (B : TbOk b) : ∀ {fs : List Field}, fieldsIn b fs = true → ∃ places, fs.mapM (fun f => (b.P.info? f.type).map fun i => (f.offset, i.size)) = some places ∧ ∀ j p, placeF b fs j = some p → places[j]? = some p
  | [], _ => ⟨[], by simp, fun j p hp => by obtain ⟨fd, i, h1, _⟩ := placeF_eq B hp; simp at h1⟩
  | f :: r, h => by
    simp only [fieldsIn] at h
    split at h
    · rename_i i hi
      obtain ⟨places, h1, h2⟩ := fieldsIn_places B h
      obtain ⟨inf, h3, h4⟩ := (B.ty _ _ hi).size
      refine ⟨(f.offset, i.size) :: places, by simp [h3, h1, h4], fun j p hp => ?_⟩
      cases j with
      | zero =>
        simp only [placeF, fieldOf, hi] at hp
        cases hp; rfl
      | succ j => exact h2 j p (by simpa only [placeF, fieldOf] using hp)
    · cases h
theorem built_ok (B : TbOk b) {t : TypeId} {ps ps' : List (Nat × Value)} {l : List Value} {i : TI} (hi : b.i t = some i) (hps : PL ρ ps ps')
    (h : (∃ fs, i.d = .struct fs ∧ fieldsIn b fs.toList = true ∧ fillC (placeF b fs.toList) i.zero ps = some l) ∨ (∃ n el ie, i.d = .array n el ∧ b.i el = some ie ∧ fillC (fun j => some (j * ie.size, ie.size)) i.zero ps = some l)) :
    ∃ l', b.P.built t ps' = some l' ∧ VL ρ l l'.toList := by
  have T := B.ty t i hi
  obtain ⟨inf, z, k1, k2, k3, k4, k5, k6, k7⟩ := T.inf
  have hz : VL ρ i.zero z.cells.toList := by rw [k5]; exact V.zero T
  rcases h with ⟨fs, hd, hin, hf⟩ | ⟨n, el, ie, hd, hel, hf⟩
  · obtain ⟨places, p1, p2⟩ := fieldsIn_places B hin
    obtain ⟨l', h1, h2⟩ := fill_ok (place' := (places.toArray[·]?)) (fun j p hp => by simpa using p2 j p hp) hps hz hf
    exact ⟨l', by simp only [Program.built, k1, T.d, hd, k4, p1]; exact h1, h2⟩
  · obtain ⟨inf2, q1, q2⟩ := (B.ty _ _ hel).size
    obtain ⟨l', h1, h2⟩ := fill_ok (place' := fun j => some (j * inf2.size, inf2.size)) (fun j p hp => by rw [q2]; exact hp) hps hz hf
    exact ⟨l', by simp only [Program.built, k1, T.d, hd, k4, q1]; exact h1, h2⟩
theorem pu_build_ok (B : TbOk b) {t : TypeId} {ps : Array (Nat × Operand)} (ho : o.op = .build t ps) : PuOK b o (pu_build t ps) := by
  intro w0 ρ h w f e v hr he hp
  have hps : PL ρ (evalParts f ps.toList) (ps.map fun (i, x) => (i, e x)).toList := by
    have := evalParts_ok (ρ := ρ) (f := f) (e := e) (l := ps.toList) fun p hp => he p.2 (by simp only [ho, Op.operands, List.mem_map]; exact ⟨p, hp, rfl⟩)
    simpa using this
  have key : ∀ {l : List Value} {i : TI}, b.i t = some i → _ → v = .agg l.toArray → ∃ v', (execOp e o).run b.P w = .ok (.value v') w ∧ V ρ v v' := fun {l i} hi h hv => by
    obtain ⟨l', h1, h2⟩ := built_ok (ρ := ρ) (l := l) B hi hps h
    exact ⟨.agg l', by simp only [execOp, ho, Sem.run_bind, run_build w t _ _ h1, Result.andThen_ok, Sem.run_pure], by rw [hv]; exact V.agg_mk (by simpa using h2)⟩
  unfold pu_build at hp
  split at hp
  · rename_i fs _ _ z _ _ h1
    split at hp
    case h_2 => cases hp
    rename_i h2
    split at hp
    case h_2 => cases hp
    rename_i l h3
    cases hp
    exact key h1 (.inl ⟨fs, rfl, h2, h3⟩) rfl
  · rename_i n el _ _ z _ _ h1
    split at hp
    case h_2 => cases hp
    rename_i ie h2
    split at hp
    case h_2 => cases hp
    rename_i l h3
    cases hp
    exact key h1 (.inr ⟨n, el, ie, rfl, h2, h3⟩) rfl
  · cases hp

/-! ### binOp -/
theorem int_ok {op : BinOp} {k : IntKind} {a c : Int} {v : Value} (h : intOp op k a c = some v) (t : TypeId) (P : Program) (w : World) : (binOp op t (.int k a) (.int k c)).run P w = .ok v w ∧ ∃ ρ, V ρ v v := by
  cases op <;> simp only [intOp, Option.some.injEq, reduceCtorEq] at h <;> subst h
  all_goals exact ⟨by simp [binOp, Op.intArith, Op.intCmp, bne], ⟨fun _ => none, V.of_flat1 _ rfl⟩⟩
theorem intOp_flat {op : BinOp} {k : IntKind} {a c : Int} {v : Value} (h : intOp op k a c = some v) : flat1 v = true := by
  cases op <;> simp only [intOp, Option.some.injEq, reduceCtorEq] at h <;> subst h <;> rfl
theorem equal_succ (t : TypeId) (x y : Value) : Op.equal t x y = Op.equalIn (9999 + 1) t x y := rfl
theorem eqOf_in {P : Program} {t : TypeId} {d : TypeDesc} (hd : P.underlying t = some d) {x y x' y' : Value} {r : Bool} (hx : V ρ x x') (hy : V ρ y y') (h : eqOf d x y = some r) (n : Nat) (w : World) :
    (Op.equalIn (n + 1) t x' y').run P w = .ok r w := by
  unfold eqOf at h
  split at h
  all_goals first | (cases h; done) | skip
  all_goals cases h
  all_goals cases hx
  all_goals cases hy
  all_goals simp [Op.equalIn, run_underlying hd]
def addrish : Value → Bool
  | .pointer _ | .slice _ _ _ | .map _ | .nilFunc | .func _ _ _ | .nilIface | .iface _ _ => true
  | _ => false
theorem eqOf_head {d : TypeDesc} {x y x' y' : Value} {r : Bool} (hx : V ρ x x') (hy : V ρ y y') (h : eqOf d x y = some r) : addrish x' = true ∧ ¬ (x' = .nilIface ∧ y' = .nilIface) := by
  unfold eqOf at h
  split at h
  all_goals first | (cases h; done) | skip
  all_goals cases hx
  all_goals cases hy
  all_goals exact ⟨rfl, fun hh => by first | (cases hh.1; done) | (cases hh.2; done)⟩
theorem eqGuard_addrish (op : BinOp) (t : TypeId) (xo yo : Operand) {x y : Value} (h : addrish x = true) (h2 : ¬ (x = .nilIface ∧ y = .nilIface)) : eqGuard op t xo yo x y = pure () := by
  cases x <;> simp only [addrish, Bool.false_eq_true] at h
  case pointer => exact eqGuard_at_pointer ..
  case slice => exact eqGuard_at_slice ..
  case map => exact eqGuard_at_map ..
  case func => exact eqGuard_at_func ..
  case nilFunc => exact eqGuard_at_nilFunc ..
  case iface => exact eqGuard_at_iface ..
  case nilIface =>
    cases y with
    | nilIface => exact absurd ⟨rfl, rfl⟩ h2
    | _ => unfold eqGuard; split <;> rfl
theorem binOp_addrish (t : TypeId) {x : Value} (y : Value) (h : addrish x = true) :
    binOp .eql t x y = (do pure (.bool (← Op.equal t x y))) ∧ binOp .neq t x y = (do pure (.bool (!(← Op.equal t x y)))) := by
  cases x <;> simp only [addrish, Bool.false_eq_true] at h <;> exact ⟨rfl, rfl⟩
theorem eqOf_ok {P : Program} {t : TypeId} {d : TypeDesc} (hd : P.underlying t = some d) {x y x' y' : Value} {r : Bool} (hx : V ρ x x') (hy : V ρ y y') (h : eqOf d x y = some r) (w : World) :
    (binOp .eql t x' y').run P w = .ok (.bool r) w ∧ (binOp .neq t x' y').run P w = .ok (.bool (!r)) w ∧ ∀ op xo yo, eqGuard op t xo yo x' y' = pure () := by
  obtain ⟨h1, h2⟩ := eqOf_head hx hy h
  have h3 := eqOf_in hd hx hy h 9999 w
  rw [← equal_succ] at h3
  refine ⟨?_, ?_, fun op xo yo => eqGuard_addrish op t xo yo h1 h2⟩
  · rw [(binOp_addrish t y' h1).1, Sem.run_bind, h3]; rfl
  · rw [(binOp_addrish t y' h1).2, Sem.run_bind, h3]; rfl
theorem eqAddr_ok (B : TbOk b) {t : TypeId} {d : TypeDesc} (hd : b.P.underlying t = some d) {x y x' y' : Value} {r : Bool} (hx : V ρ x x') (hy : V ρ y y') (h : eqAddr b d x y = some r) (w : World) :
    (binOp .eql t x' y').run b.P w = .ok (.bool r) w ∧ (binOp .neq t x' y').run b.P w = .ok (.bool (!r)) w ∧ ∀ op xo yo, eqGuard op t xo yo x' y' = pure () := by
  unfold eqAddr at h
  split at h
  case h_2 => cases h
  rename_i e a c
  split at h
  case h_2 => cases h
  rename_i i h1 h2
  split at h
  case h_1 => cases h
  rename_i n hn
  cases h
  obtain ⟨L, l1, l2, rfl⟩ := hx.ptr_inv
  obtain ⟨M, m1, m2, rfl⟩ := hy.ptr_inv
  have hb : a.block = c.block := by simpa using h2
  rw [hb, m1] at l1
  cases l1
  have hs := run_sizeOf (B.ty _ _ h1) w
  have he : ((⟨L.b, L.d + a.off, none⟩ : Addr) == ⟨L.b, L.d + c.off, none⟩) = Nat.beq a.off c.off := by
    rw [Bool.eq_iff_iff]
    simp
  have key : (Op.equal t (.pointer (some ⟨L.b, L.d + a.off, none⟩)) (.pointer (some ⟨L.b, L.d + c.off, none⟩))).run b.P w = .ok (Nat.beq a.off c.off) w := by
    rw [equal_succ]
    generalize 9999 = n
    simp only [Op.equalIn, Sem.run_bind, run_underlying hd, Result.andThen_ok, hs, hn, sameAddr]
    simp [he]
  refine ⟨?_, ?_, fun op xo yo => by cases op <;> rfl⟩
  · rw [(binOp_addrish t _ rfl).1]; simp [key]
  · rw [(binOp_addrish t _ rfl).2]; simp [key]
theorem eqFlat_ok (B : TbOk b) {op : BinOp} {t yt : TypeId} {x y : Operand} (ho : o.op = .binOp op t x y yt) {w0 : World} {h : H} {w : World} {f : AF} {e : Operand → Value} {v : Value} (hr : HR w0 ρ h w)
    (he : ∀ x ∈ o.op.operands.toList, V ρ (f.eval x) (e x)) (hp : eqFlat b f o op t x y h = some v) : ∃ v', (execOp e o).run b.P w = .ok (.value v') w ∧ V ρ v v' := by
  have hx := he x (by simp [ho, Op.operands])
  have hy := he y (by simp [ho, Op.operands])
  have hgen := fun hp => pu_gen_ok (b := b) (o := o) (fun cs b => by rw [ho]; simp) w0 ρ h w f e v hr he hp
  unfold eqFlat at hp
  split at hp
  · rename_i i h1
    have hd := (B.ty _ _ h1).d
    split at hp
    · rename_i r h2
      cases hp
      obtain ⟨k1, k2, k3⟩ := eqOf_ok hd hx hy h2 w
      exact ⟨_, by simp [execOp, ho, k3, k1], .bool _⟩
    · split at hp
      · rename_i r h2
        cases hp
        obtain ⟨k1, k2, k3⟩ := eqAddr_ok B hd hx hy h2 w
        exact ⟨_, by simp [execOp, ho, k3, k1], .bool _⟩
      · exact hgen hp
  · rename_i i h1
    have hd := (B.ty _ _ h1).d
    split at hp
    · rename_i r h2
      cases hp
      obtain ⟨k1, k2, k3⟩ := eqOf_ok hd hx hy h2 w
      exact ⟨_, by simp [execOp, ho, k3, k2], .bool _⟩
    · split at hp
      · rename_i r h2
        cases hp
        obtain ⟨k1, k2, k3⟩ := eqAddr_ok B hd hx hy h2 w
        exact ⟨_, by simp [execOp, ho, k3, k2], .bool _⟩
      · exact hgen hp
  · exact hgen hp
theorem pu_binOp_ok (B : TbOk b) {op : BinOp} {t yt : TypeId} {x y : Operand} (ho : o.op = .binOp op t x y yt) : PuOK b o (pu_binOp op t x y) := by
  intro w0 ρ h w f e v hr he hp
  have hx := he x (by simp [ho, Op.operands])
  have hy := he y (by simp [ho, Op.operands])
  have hgen := fun hp => pu_gen_ok (b := b) (o := o) (fun cs b => by rw [ho]; simp) w0 ρ h w f e v hr he hp
  unfold pu_binOp at hp
  split at hp
  · rename_i j a k c h1 h2
    rw [h1] at hx; rw [h2] at hy
    split at hp
    · rename_i u h3 h4
      cases hp
      have h3' : j = k := by simpa using h3
      subst h3'
      refine ⟨v, ?_, V.of_flat1 _ (intOp_flat h4)⟩
      have := (int_ok h4 t b.P w).1
      simp only [execOp, ho, hx.int_inv, hy.int_inv]
      rw [eqGuard_at_int]
      simp [this]
    · exact hgen hp
  · exact eqFlat_ok B ho hr he hp
/-! ### slices -/
theorem boundN_ok {v v' : Option Value} {z m r : Nat} (hv : (v = none ∧ v' = none) ∨ ∃ x x', v = some x ∧ v' = some x' ∧ V ρ x x') (h : boundN v z m = some r) :
    (v' = none ∧ r = z) ∨ ∃ k n, v' = some (.int k n) ∧ 0 ≤ n ∧ n.toNat = r ∧ r ≤ m := by
  unfold boundN at h
  split at h
  · cases h
    rcases hv with ⟨_, h⟩ | ⟨x, x', h, _⟩
    · exact .inl ⟨h, rfl⟩
    · cases h
  · rename_i k n
    split at h
    · rename_i h1 h2
      cases h
      rcases hv with ⟨h, _⟩ | ⟨x, x', h, h', hV⟩
      · cases h
      · cases h
        exact .inr ⟨k, n, by rw [h', hV.int_inv], by simpa using h1, rfl, by simpa using h2⟩
    · cases h
  · cases h
theorem run_sliceBound {P : Program} {k : IntKind} {n : Int} {m : Nat} (c : BoundsCode) (w : World) (h0 : 0 ≤ n) (hm : n.toNat ≤ m) : (Instr.sliceBound (.int k n) m c).run P w = .ok n.toNat w := by
  have : n ≤ (m : Int) := by omega
  simp [Instr.sliceBound, asIntOf, h0, this]
/-- The bounds, without a third one. -/
theorem run_bounds2 {P : Program} {lo hi : Option Value} {len cap l h : Nat} (b : Bool) (w : World)
    (hh : (hi = none ∧ h = len) ∨ ∃ k n, hi = some (.int k n) ∧ 0 ≤ n ∧ n.toNat = h ∧ h ≤ cap)
    (hl : (lo = none ∧ l = 0) ∨ ∃ k n, lo = some (.int k n) ∧ 0 ≤ n ∧ n.toNat = l ∧ l ≤ h) :
    (Instr.sliceBounds b len cap lo hi none).run P w = .ok (l, h, cap) w := by
  rcases hh with ⟨rfl, rfl⟩ | ⟨k, n, rfl, h1, rfl, h3⟩ <;> rcases hl with ⟨rfl, rfl⟩ | ⟨k', n', rfl, h1', rfl, h3'⟩
  all_goals simp [Instr.sliceBounds, run_sliceBound, *]
theorem run_bounds3 {P : Program} {lo : Option Value} {len cap l h m : Nat} {hk mk : IntKind} {hn mn : Int} (b : Bool) (w : World)
    (hm0 : 0 ≤ mn) (hm1 : mn.toNat = m) (hm2 : m ≤ cap) (hh0 : 0 ≤ hn) (hh1 : hn.toNat = h) (hh2 : h ≤ m)
    (hl : (lo = none ∧ l = 0) ∨ ∃ k n, lo = some (.int k n) ∧ 0 ≤ n ∧ n.toNat = l ∧ l ≤ h) :
    (Instr.sliceBounds b len cap lo (some (.int hk hn)) (some (.int mk mn))).run P w = .ok (l, h, m) w := by
  subst hm1 hh1
  rcases hl with ⟨rfl, rfl⟩ | ⟨k', n', rfl, h1', rfl, h3'⟩
  all_goals simp [Instr.sliceBounds, run_sliceBound, *]
theorem oeval_rel {f : AF} {e : Operand → Value} {x : Option Operand} (h : ∀ y, x = some y → V ρ (f.eval y) (e y)) : (oeval f x = none ∧ x.map e = none) ∨ ∃ y y', oeval f x = some y ∧ x.map e = some y' ∧ V ρ y y' := by
  cases x with
  | none => exact .inl ⟨rfl, rfl⟩
  | some y => exact .inr ⟨_, _, rfl, rfl, h y rfl⟩
/-- x[low:high] of a slice, abstract and true. -/
theorem aslice_ok {w0 : World} {h : H} {w : World} (hr : HR w0 ρ h w) {size n cap : Nat} {a : Addr} {v' : Value} {lo hi lo' hi' : Option Value} {v : Value} (hs : 0 < size) (hv : V ρ (.slice (some a) n cap) v')
    (hlo : (lo = none ∧ lo' = none) ∨ ∃ y y', lo = some y ∧ lo' = some y' ∧ V ρ y y') (hhi : (hi = none ∧ hi' = none) ∨ ∃ y y', hi = some y ∧ hi' = some y' ∧ V ρ y y')
    (h1 : aslice h size a n cap lo hi = some v) :
    ∃ a' cap' l m, v' = .slice (some a') n cap' ∧ (∀ (P : Program) (b : Bool), (Instr.sliceBounds b n cap' lo' hi' none).run P w = .ok (l, m, cap') w) ∧ V ρ v (.slice (some (if cap' = l then a' else a'.add (l * size))) (m - l) (cap' - l)) := by
  obtain ⟨L, a', c', k1, k2, k3, k4⟩ := hv.slice_inv
  unfold aslice at h1
  split at h1
  · rename_i hc
    have hc' : cap < UNK := by simpa using hc
    rcases k4 with ⟨_, rfl, rfl⟩ | ⟨k5, _⟩
    case inr => omega
    split at h1
    case h_2 => cases h1
    rename_i m hm
    split at h1
    case h_2 => cases h1
    rename_i l hl
    cases h1
    have b1 := boundN_ok hhi hm
    have b2 := boundN_ok hlo hl
    refine ⟨_, _, l, m, k3, fun P b => run_bounds2 b w b1 b2, ?_⟩
    by_cases hcl : c' = l
    · subst hcl
      have : Nat.beq c' c' = true := by simp
      rw [this]
      simp only [if_pos]
      exact .sliceK k1 k2 rfl (by omega)
    · rw [beq_ne hcl, if_neg hcl, addr_add]
      exact .sliceK k1 rfl (by simp [Nat.add_assoc]) (by omega)
  · rename_i hc
    have hc' : ¬ cap < UNK := Nat.not_lt.2 (blt_f hc)
    rcases k4 with ⟨k5, _⟩ | ⟨k5, k6, k7, k8⟩
    case inl => omega
    split at h1
    case h_2 => cases h1
    rename_i m hm
    split at h1
    case h_2 => cases h1
    rename_i l hl
    split at h1
    case h_2 => cases h1
    rename_i x hx
    split at h1
    case h_2 => cases h1
    rename_i hst
    cases h1
    have hst' : x.st = size := by simpa using hst
    have b1 := boundN_ok hhi hm
    have b2 := boundN_ok hlo hl
    have hLst : L.st = size := by rw [(hr.row k1 (rowAt_get hx)).st, hst']
    have b1' : (hi' = none ∧ m = n) ∨ ∃ k n, hi' = some (.int k n) ∧ 0 ≤ n ∧ n.toNat = m ∧ m ≤ c' := by
      rcases b1 with h | ⟨k, n, p1, p2, p3, p4⟩
      · exact .inl h
      · exact .inr ⟨k, n, p1, p2, p3, by omega⟩
    have hml : m ≤ cap - UNK := by
      rcases b1 with ⟨_, h⟩ | ⟨k, n, p1, p2, p3, p4⟩
      · omega
      · omega
    have hlm : l ≤ m := by
      rcases b2 with ⟨_, h⟩ | ⟨k, n, p1, p2, p3, p4⟩
      · omega
      · omega
    refine ⟨a', c', l, m, k3, fun P b => run_bounds2 b w b1' b2, ?_⟩
    clear b1 b2 b1' hlo hhi hm hl
    have q1 : UNK ≤ cap - l := by omega
    have q2 : cap - l - UNK ≤ c' - l := by omega
    have q3 : m - l ≤ cap - l - UNK := by omega
    refine .sliceU (L := L) k1 rfl q1 q2 q3 ?_
    by_cases hcl : c' = l
    · left; omega
    · right
      rw [if_neg hcl]
      rcases k8 with k8 | ⟨k8, k9⟩
      · omega
      · rw [k8, addr_add, hLst]
        rw [hLst] at k9
        refine ⟨by simp [Nat.add_assoc], ?_⟩
        show L.d + (a.off + l * size) + (c' - l) * size ≤ L.E
        have : (c' - l) * size + l * size = c' * size := by rw [← Nat.add_mul, Nat.sub_add_cancel (by omega)]
        omega
end
end Go.Ev
end

section
set_option linter.unusedVariables false
set_option linter.unusedSimpArgs false
namespace Go.Ev
open Go Go.RowKit
section
variable {ρ : Rho} {b : Tb} {o : Oper}
theorem aslice3_ok {size n cap : Nat} {a : Addr} {v' : Value} {lo hi lo' hi' : Option Value} {mx mx' v : Value} (hs : 0 < size) (hv : V ρ (.slice (some a) n cap) v')
    (hlo : (lo = none ∧ lo' = none) ∨ ∃ y y', lo = some y ∧ lo' = some y' ∧ V ρ y y') (hhi : (hi = none ∧ hi' = none) ∨ ∃ y y', hi = some y ∧ hi' = some y' ∧ V ρ y y') (hmx : V ρ mx mx')
    (h1 : aslice3 size a n cap lo hi mx = some v) (w : World) :
    ∃ a' cap' l m k, v' = .slice (some a') n cap' ∧ (∀ (P : Program) (b : Bool), (Instr.sliceBounds b n cap' lo' hi' (some mx')).run P w = .ok (l, m, k) w) ∧ V ρ v (.slice (some (if k = l then a' else a'.add (l * size))) (m - l) (k - l)) := by
  obtain ⟨L, a', c', k1, k2, k3, k4⟩ := hv.slice_inv
  unfold aslice3 at h1
  split at h1
  · cases h1
  · rename_i k hk
    split at h1
    · cases h1
    · cases h1
    · rename_i hv0 hku
      have hku' := blt_t hku
      split at h1
      case h_2 => cases h1
      rename_i m hm
      split at h1
      case h_2 => cases h1
      rename_i l hl
      cases h1
      have b0 := boundN_ok (v := some mx) (v' := some mx') (.inr ⟨mx, mx', rfl, rfl, hmx⟩) hk
      have b1 := boundN_ok hhi hm
      have b2 := boundN_ok hlo hl
      rcases b0 with ⟨h, _⟩ | ⟨mk, mn, p1, p2, p3, p4⟩
      · cases h
      rcases b1 with ⟨h, _⟩ | ⟨hk', hn, q1, q2, q3, q4⟩
      · rcases hhi with ⟨h', _⟩ | ⟨y, y', _, h', _⟩
        · cases h'
        · rw [h'] at h; cases h
      cases p1
      have hkc : k + 1 ≤ c' ∧ a' = ⟨L.b, L.d + a.off, none⟩ ∧ k + 1 < UNK := by
        split at p4
        · rename_i hc
          have := blt_t hc
          rcases k4 with ⟨_, rfl, h⟩ | ⟨h, _⟩
          · exact ⟨p4, h, by omega⟩
          · omega
        · rename_i hc
          have := blt_f hc
          rcases k4 with ⟨h, _⟩ | ⟨h, g1, g2, g3⟩
          · omega
          · rcases g3 with g3 | ⟨g3, _⟩
            · omega
            · exact ⟨by omega, g3, by omega⟩
      obtain ⟨r1, r2, r3⟩ := hkc
      subst r2
      refine ⟨_, c', l, m, k + 1, k3, fun P b => ?_, ?_⟩
      · rw [q1]
        exact run_bounds3 b w p2 p3 r1 q2 q3 q4 b2
      · by_cases hcl : k + 1 = l
        · subst hcl
          have : Nat.beq (k + 1) (k + 1) = true := by simp
          rw [this]
          simp only [if_pos]
          exact .sliceK k1 k2 rfl (by omega)
        · rw [beq_ne hcl, if_neg hcl, addr_add]
          exact .sliceK k1 rfl (by simp [Nat.add_assoc]) (by omega)
  · cases h1
theorem pu_slice_ok (B : TbOk b) {t : TypeId} {x : Operand} {lo hi mx : Option Operand} (ho : o.op = .slice t x lo hi mx) : PuOK b o (pu_slice t x lo hi mx) := by
  intro w0 ρ h w f e v hr he hp
  have hx := he x (by simp [ho, Op.operands])
  have hlo := oeval_rel (ρ := ρ) (f := f) (e := e) (x := lo) fun y hy => he y (by simp [ho, Op.operands, hy])
  have hhi := oeval_rel (ρ := ρ) (f := f) (e := e) (x := hi) fun y hy => he y (by simp [ho, Op.operands, hy])
  have hgen := fun hp => pu_gen_ok (b := b) (o := o) (fun cs b => by rw [ho]; simp) w0 ρ h w f e v hr he hp
  unfold pu_slice at hp
  split at hp
  · rename_i el _ _ _ _ _ a n c h1 h2
    rw [h2] at hx
    have hd := (B.ty _ _ h1).d
    split at hp
    case h_2 => cases hp
    rename_i i h3
    have hsz := run_sizeOf (B.ty _ _ h3) w
    split at hp
    case h_1 => cases hp
    rename_i s hs
    split at hp
    · obtain ⟨a', cap', l, m, k1, k2, k3⟩ := aslice_ok hr (by omega) hx hlo hhi hp
      refine ⟨_, ?_, k3⟩
      simp [execOp, ho, k1, Instr.sliceAt, Instr.slice, run_underlying hd, k2, hsz]
      try (split <;> rfl)
    · rename_i m
      have hmx := he m (by simp [ho, Op.operands])
      obtain ⟨a', cap', l, m', k, k1, k2, k3⟩ := aslice3_ok (by omega) hx hlo hhi hmx hp w
      refine ⟨_, ?_, k3⟩
      simp [execOp, ho, k1, Instr.sliceAt, Instr.slice, run_underlying hd, k2, hsz]
      try (split <;> rfl)
  · rename_i k el _ _ _ _ _ a h1 h2
    rw [h2] at hx
    obtain ⟨L, l1, l2, l3⟩ := hx.ptr_inv
    have hd := (B.ty _ _ h1).d
    split at hp
    case h_2 => cases hp
    rename_i i h3
    have hsz := run_sizeOf (B.ty _ _ h3) w
    split at hp
    case h_2 => cases hp
    rename_i s hs hk
    have hk' := blt_t hk
    split at hp
    · have hsl : V ρ (.slice (some a) k k) (.slice (some ⟨L.b, L.d + a.off, none⟩) k k) := .sliceK l1 l2 rfl hk'
      obtain ⟨a', cap', l, m, k1, k2, k3⟩ := aslice_ok hr (by omega) hsl hlo hhi hp
      cases k1
      refine ⟨_, ?_, k3⟩
      simp [execOp, ho, l3, Instr.sliceAt, run_underlying hd, Instr.sureAddr, k2, hsz]
    · cases hp
  · exact hgen hp
theorem bsize (s : ByteArray) : s.size = s.data.toList.length := by rw [Array.length_toList]; rfl
theorem V.slice_any {a : Option Addr} {n c : Nat} {v' : Value} (h : V ρ (.slice a n c) v') : ∃ a' c', v' = .slice a' n c' := by
  cases h <;> exact ⟨_, _, rfl⟩
theorem V.slice_cap {a : Option Addr} {n c : Nat} {v' : Value} (h : V ρ (.slice a n c) v') (hc : c < UNK) : ∃ a', v' = .slice a' n c := by
  cases h with
  | slice0 => exact ⟨_, rfl⟩
  | sliceK => exact ⟨_, rfl⟩
  | sliceU g1 g2 g3 => omega
theorem V.map0_inv {v' : Value} (h : V ρ (.map none) v') : v' = .map none := by cases h; rfl
theorem V.slice0_inv {n c : Nat} {v' : Value} (h : V ρ (.slice none n c) v') : v' = .slice none n c := by cases h; rfl
theorem V.ptr0_inv {v' : Value} (h : V ρ (.pointer none) v') : v' = .pointer none := by cases h; rfl
theorem V.nilIface_inv {v' : Value} (h : V ρ .nilIface v') : v' = .nilIface := by cases h; rfl
theorem V.iface_inv {t : TypeId} {v v' : Value} (h : V ρ (.iface t v) v') : ∃ u, v' = .iface t u ∧ V ρ v u := by
  cases h with
  | iface _ h => exact ⟨_, rfl, h⟩
theorem ML.length {es es' : List MapEntry} (h : ML ρ es es') : es.length = es'.length := by
  induction h with
  | nil => rfl
  | cons h t ih => simp [ih]
theorem run_getObj {P : Program} {w : World} {r : Nat} {o : Obj} (h : w.heap[r]? = some o) (hn : ∀ c e f, o ≠ .cells c e f) : (getObj r).run P w = .ok o w := by
  simp only [getObj, Sem.run, h]
/-- A map that is there. -/
theorem HR.map {w0 : World} {h : H} {w : World} (hr : HR w0 ρ h w) {r : Nat} {L : Loc} {es : List MapEntry} {clock : Nat} (hp : ρ r = some L) (hg : h.get r = some (.obj (.map es clock))) :
    ∃ es' : Array MapEntry, ML ρ es es'.toList ∧ w.heap[L.b]? = some (.map es' clock) ∧ ∀ P : Program, (getObj L.b).run P w = .ok (.map es' clock) w := by
  obtain ⟨_, o', h1, h2⟩ := hr.obj hp hg
  cases h2 with
  | map c hm => exact ⟨_, hm, h1, fun P => run_getObj h1 (by intro _ _ _ hh; cases hh)⟩
theorem V.map_inv {r : Nat} {v' : Value} (h : V ρ (.map (some r)) v') : ∃ L, ρ r = some L ∧ v' = .map (some L.b) := by
  cases h with
  | map h => exact ⟨_, h, rfl⟩
theorem pu_len_ok (B : TbOk b) {c : Call} (ho : o.op = .call c) (hc : c.callee = .builtin .len) : PuOK b o (pu_len c.args.toList c.argTypes.toList) := by
  intro w0 ρ h w f e v hr he hp
  unfold pu_len at hp
  split at hp
  case h_2 => cases hp
  rename_i x t ts ha ht
  have ha' : c.args = #[x] := by apply Array.toList_inj.1; simpa using ha
  have hx := he x (by simp [ho, Op.operands, Call.operands, hc, ha'])
  have ht' : c.argTypes[0]? = some t := by
    have : c.argTypes.toList[0]? = some t := by rw [ht]; rfl
    simpa using this
  have run : ∀ v', (Builtin.len_ c.argTypes o.type #[e x]).run b.P w = .ok v' w → (execOp e o).run b.P w = .ok (.value v') w := by
    intro v' hv
    simp only [execOp, ho, resolve, hc, invoke, builtin, ha']
    simp [hv]
  split at hp
  case h_2 => cases hp
  rename_i i h2
  have hd := (B.ty _ _ h2).d
  split at hp
  · rename_i el a n cc hdd h1
    rw [h1] at hx; rw [hdd] at hd; cases hp
    obtain ⟨a', c', hv⟩ := hx.slice_any
    exact ⟨.int .i64 n, run _ (by simp [Builtin.len_, ht', run_underlying hd, goInt, hv]), .int _ _⟩
  · rename_i s hdd h1
    rw [h1] at hx; rw [hdd] at hd; cases hp
    exact ⟨.int .i64 s.data.toList.length, run _ (by rw [hx.string_inv]; simp [Builtin.len_, ht', run_underlying hd, goInt]), .int _ _⟩
  · rename_i hdd h1
    rw [h1] at hx; rw [hdd] at hd; cases hp
    exact ⟨.int .i64 0, run _ (by rw [hx.map0_inv]; simp [Builtin.len_, ht', run_underlying hd, goInt]), .int _ _⟩
  · rename_i r hdd h1
    rw [h1] at hx; rw [hdd] at hd
    split at hp
    · rename_i es clock h3
      cases hp
      obtain ⟨L, l1, l2⟩ := hx.map_inv
      obtain ⟨es', m1, m2, m3⟩ := hr.map l1 h3
      have := m1.length
      exact ⟨.int .i64 es.length, run _ (by rw [l2]; simp [Builtin.len_, ht', run_underlying hd, goInt, m3, this]), .int _ _⟩
    · cases hp
  · rename_i n el hdd
    rw [hdd] at hd; cases hp
    exact ⟨.int .i64 n, run _ (by simp [Builtin.len_, ht', run_underlying hd, goInt]), .int _ _⟩
  · cases hp
theorem pu_cap_ok (B : TbOk b) {c : Call} (ho : o.op = .call c) (hc : c.callee = .builtin .cap) : PuOK b o (pu_cap c.args.toList c.argTypes.toList) := by
  intro w0 ρ h w f e v hr he hp
  unfold pu_cap at hp
  split at hp
  case h_2 => cases hp
  rename_i x t ts ha ht
  have ha' : c.args = #[x] := by apply Array.toList_inj.1; simpa using ha
  have hx := he x (by simp [ho, Op.operands, Call.operands, hc, ha'])
  have ht' : c.argTypes[0]? = some t := by
    have : c.argTypes.toList[0]? = some t := by rw [ht]; rfl
    simpa using this
  split at hp
  · rename_i a n cc _ _ _ _ _ _ h1 h2
    rw [h1] at hx
    have hd := (B.ty _ _ h2).d
    split at hp
    · rename_i h3
      cases hp
      have h3' := blt_t h3
      refine ⟨.int .i64 cc, ?_, .int _ _⟩
      have hv : (Builtin.cap_ c.argTypes o.type #[e x]).run b.P w = .ok (.int .i64 cc) w := by
        obtain ⟨a', hq⟩ := hx.slice_cap h3'
        simp [Builtin.cap_, ht', run_underlying hd, goInt, hq]
      simp only [execOp, ho, resolve, hc, invoke, builtin, ha']
      simp [hv]
    · cases hp
  · cases hp
/-! ### Maps -/
theorem keyEq_ok {d : TypeDesc} {k k' x x' : Value} {r : Bool} (hk : V ρ k k') (hx : V ρ x x') (h : keyEq d k x = some r) : Instr.sameNow d k' x' = some r := by
  unfold keyEq at h
  split at h
  · rename_i j a l c
    split at h
    · rename_i h1
      cases h
      have h1' : j = l := by simpa using h1
      rw [hk.int_inv, hx.int_inv]
      simp [Instr.sameNow, h1']
    · cases h
  · rename_i a c
    cases h
    rw [hk.string_inv, hx.string_inv]
    simp only [Instr.sameNow, Option.some.injEq]
    show (a.data == c.data) = _
    rw [Bool.eq_iff_iff, beq_iff_eq, decide_eq_true_eq]
    exact ⟨fun h => by rw [h], fun h => Array.toList_inj.1 h⟩
  · cases h
    rw [hk.bool_inv, hx.bool_inv]
    rfl
  · cases h
theorem keyAt_ok {d : TypeDesc} {k k' : Value} (hk : V ρ k k') : ∀ {es es' : List MapEntry} {i : Nat} {r : Option (Nat × Value)}, ML ρ es es' → keyAt d k es i = some r →
    ∃ r', Instr.findNow d k' es' i = some r' ∧ ((r = none ∧ r' = none) ∨ ∃ j v v', r = some (j, v) ∧ r' = some (j, v') ∧ V ρ v v')
  | [], _, i, r, .nil, h => by simp only [keyAt] at h; cases h; exact ⟨none, rfl, .inl ⟨rfl, rfl⟩⟩
  | e :: es, _, i, r, .cons (e' := e') he ht, h => by
    simp only [keyAt] at h
    split at h
    · rename_i hq
      cases h
      exact ⟨some (i, e'.val), by simp [Instr.findNow, keyEq_ok hk he.k hq], .inr ⟨i, _, _, rfl, rfl, he.v⟩⟩
    · rename_i hq
      obtain ⟨r', h1, h2⟩ := keyAt_ok hk ht h
      exact ⟨r', by simp [Instr.findNow, keyEq_ok hk he.k hq, h1], h2⟩
    · cases h
theorem run_findKey {P : Program} {kt : TypeId} {d : TypeDesc} (hd : P.underlying kt = some d) {k' : Value} {es' : List MapEntry} {r' : Option (Nat × Value)} (h : Instr.findNow d k' es' 0 = some r') (w : World) :
    (Instr.findKey kt k' es').run P w = .ok r' w := by
  simp [Instr.findKey, run_underlying hd, h]
theorem run_checkKey {P : Program} {kt : TypeId} {d : TypeDesc} (hd : P.underlying kt = some d) (hp : plainKey d = true) (em : Bool) (n : Nat) (k : Value) (w : World) : (Instr.checkKey em (n + 1) kt k).run P w = .ok () w := by
  cases d <;> simp only [plainKey, Bool.false_eq_true] at hp <;> cases k <;> simp [Instr.checkKey, run_underlying hd]
theorem zeroOf_ok {P : Program} {t : TypeId} {i : TI} (hi : TyOk P t i) {z : Value} (h : zeroOf i = some z) (w : World) : ∃ z', (zeroValue t).run P w = .ok z' w ∧ V ρ z z' := by
  obtain ⟨z', h1, h2, h3, h4⟩ := run_zeroValue hi w
  unfold zeroOf at h
  split at h
  · rename_i hagg
    cases h
    refine ⟨z', h1, ?_⟩
    rw [h3 hagg]
    exact V.agg_mk (by simpa using V.zero (ρ := ρ) hi)
  · rename_i hagg
    split at h
    · rename_i v hv
      cases h
      have := h4 hagg
      rw [hv] at this
      obtain rfl : _ = z' := by simpa using this
      refine ⟨_, h1, ?_⟩
      have hf := hi.flat
      rw [hv] at hf
      exact V.of_flat1 ρ (by simpa using hf)
    · cases h
theorem run_checkKey' {P : Program} {kt : TypeId} {d : TypeDesc} (hd : P.underlying kt = some d) (hp : plainKey d = true) (em : Bool) (k : Value) (w : World) : (Instr.checkKey em 10000 kt k).run P w = .ok () w := run_checkKey hd hp em 9999 k w
theorem pair_tuple {ok : Bool} {v v' : Value} (c : Bool) (h : V ρ v v') : V ρ (match ok with | true => .tuple #[v, .bool c] | false => v) (if ok then .tuple #[v', .bool c] else v') := by
  cases ok with
  | true => exact V.tuple_mk (.cons h (.cons (.bool c) .nil))
  | false => exact h
theorem pu_lookup_ok (B : TbOk b) {t : TypeId} {x k : Operand} {ok : Bool} (ho : o.op = .lookup t x k ok) : PuOK b o (pu_lookup t x k ok) := by
  intro w0 ρ h w f e v hr he hp
  have hx := he x (by simp [ho, Op.operands])
  have hk := he k (by simp [ho, Op.operands])
  unfold pu_lookup at hp
  split at hp
  case h_2 => cases hp
  rename_i kt el _ _ _ _ _ h1
  have hd := (B.ty _ _ h1).d
  split at hp
  case h_2 => cases hp
  rename_i ki i h2 h3
  have hkd := (B.ty _ _ h2).d
  split at hp
  case h_2 => cases hp
  rename_i es hpl hes
  have hmap : ∃ es' : Array MapEntry, ML ρ es es'.toList ∧ (e x = .map none ∧ es' = #[] ∨ ∃ r clock, e x = .map (some r) ∧ (getObj r).run b.P w = .ok (.map es' clock) w) := by
    unfold entriesOf at hes
    split at hes
    · rename_i h4; rw [h4] at hx; cases hes
      exact ⟨#[], .nil, .inl ⟨hx.map0_inv, rfl⟩⟩
    · rename_i r h4; rw [h4] at hx
      split at hes
      · rename_i es2 clock h5
        cases hes
        obtain ⟨L, l1, l2⟩ := hx.map_inv
        obtain ⟨es', m1, m2, m3⟩ := hr.map l1 h5
        exact ⟨es', m1, .inr ⟨L.b, clock, l2, m3 b.P⟩⟩
      · cases hes
    · cases hes
  obtain ⟨es', m1, m2⟩ := hmap
  -- found
  have found : ∀ (j : Nat) (v' : Value), Instr.findNow ki.d (e k) es'.toList 0 = some (some (j, v')) → (execOp e o).run b.P w = .ok (.value (if ok then .tuple #[v', .bool true] else v')) w := by
    intro j v' hf
    have hfk := run_findKey hkd hf w
    have hl : (Instr.lookup t (e x) (e k) ok).run b.P w = .ok (if ok then .tuple #[v', .bool true] else v') w := by
      rcases m2 with ⟨q1, rfl⟩ | ⟨r, clock, q1, q2⟩
      · simp [Instr.findNow] at hf
      · simp [Instr.lookup, q1, q2, run_underlying hd, run_checkKey' hkd hpl, hfk]
    simp [execOp, ho, hl]
  have missing : ∀ (z' : Value), Instr.findNow ki.d (e k) es'.toList 0 = some none → (zeroValue el).run b.P w = .ok z' w → (execOp e o).run b.P w = .ok (.value (if ok then .tuple #[z', .bool false] else z')) w := by
    intro z' hf hz
    have hfk := run_findKey hkd hf w
    have hl : (Instr.lookup t (e x) (e k) ok).run b.P w = .ok (if ok then .tuple #[z', .bool false] else z') w := by
      rcases m2 with ⟨q1, rfl⟩ | ⟨r, clock, q1, q2⟩
      · have hfk' : (Instr.findKey kt (e k) []).run b.P w = .ok none w := hfk
        simp [Instr.lookup, q1, run_underlying hd, run_checkKey' hkd hpl, hfk', hz]
      · simp [Instr.lookup, q1, q2, run_underlying hd, run_checkKey' hkd hpl, hfk, hz]
    simp [execOp, ho, hl]
  split at hp
  · rename_i j v1 hq
    cases hp
    obtain ⟨r', f1, f2⟩ := keyAt_ok hk m1 hq
    rcases f2 with ⟨h, _⟩ | ⟨j', u, u', h, h', hV⟩
    · cases h
    · cases h; subst h'
      exact ⟨_, found j u' f1, pair_tuple true hV⟩
  · rename_i hq
    split at hp
    · rename_i z hz
      cases hp
      obtain ⟨r', f1, f2⟩ := keyAt_ok hk m1 hq
      rcases f2 with ⟨_, h⟩ | ⟨j', u, u', h, _, _⟩
      · subst h
        obtain ⟨z', g1, g2⟩ := zeroOf_ok (ρ := ρ) (B.ty _ _ h3) hz w
        exact ⟨_, missing z' f1 g1, pair_tuple false g2⟩
      · cases h
    · cases hp
  · cases hp
theorem bornAt_ok {s : Nat} : ∀ {es es' : List MapEntry} {x : MapEntry}, ML ρ es es' → bornAt s es = some x → ∃ x', es'.find? (·.born == s) = some x' ∧ MR ρ x x'
  | [], _, x, .nil, h => by simp [bornAt] at h
  | y :: es, _, x, .cons (e' := y') hy ht, h => by
    simp only [bornAt] at h
    split at h
    · rename_i hq
      cases h
      have : y.born = s := by simpa using hq
      exact ⟨y', by simp [List.find?, hy.b, this], hy⟩
    · rename_i hq
      obtain ⟨x', h1, h2⟩ := bornAt_ok ht h
      have hne := beq_f hq
      have hq' : (y.born == s) = false := by simpa using hne
      exact ⟨x', by simp [List.find?, hy.b, hq', h1], h2⟩
theorem HR.iter {w0 : World} {h : H} {w : World} (hr : HR w0 ρ h w) {r m : Nat} {L : Loc} {s l : Nat} {seen : List Nat} (hp : ρ r = some L) (hg : h.get r = some (.obj (.mapIter (some m) s seen l))) :
    ∃ M seen', ρ m = some M ∧ seen'.toList = seen ∧ w.heap[L.b]? = some (.mapIter (some M.b) s seen' l) ∧ ∀ P : Program, (getObj L.b).run P w = .ok (.mapIter (some M.b) s seen' l) w := by
  obtain ⟨_, o', h1, h2⟩ := hr.obj hp hg
  cases h2 with
  | iter s l hm hs => exact ⟨_, _, hm, hs, h1, fun P => run_getObj h1 (by intro _ _ _ hh; cases hh)⟩
theorem pu_entry_ok {it : Operand} (ho : o.op = .entry it) : PuOK b o (pu_entry it) := by
  intro w0 ρ h w f e v hr he hp
  have hx := he it (by simp [ho, Op.operands])
  unfold pu_entry at hp
  split at hp
  case h_2 => cases hp
  rename_i r spot h1
  rw [h1] at hx
  obtain ⟨L, l1, l2, l3⟩ := hx.ptr_inv
  split at hp
  case h_2 => cases hp
  rename_i m _ st last h2
  obtain ⟨M, seen', m1, m2, m3, m4⟩ := hr.iter l1 h2
  have hLd := (hr.obj l1 h2).1
  split at hp
  case h_2 => cases hp
  rename_i es clock h3
  obtain ⟨es', n1, n2, n3⟩ := hr.map m1 h3
  split at hp
  case h_2 => cases hp
  rename_i x hc hb
  cases hp
  obtain ⟨x', k1, k2⟩ := bornAt_ok n1 hb
  have hcl : clock = last := by simpa using hc
  have hseen : seen' = #[st] := by apply Array.toList_inj.1; simpa using m2
  have hfind : es'.find? (·.born == st) = some x' := by rw [← Array.find?_toList]; exact k1
  refine ⟨.tuple #[x'.key, x'.val], ?_, V.tuple_mk (.cons k2.k (.cons k2.v .nil))⟩
  have hl3 : e it = .pointer (some ⟨L.b, 0, none⟩) := by rw [l3]; simp [hLd]
  subst hseen hcl
  simp [execOp, ho, hl3, Instr.entry, m4, n3, hfind]
theorem run_ta_same {P : Program} {ty : TypeId} {d : TypeDesc} (hd : P.underlying ty = some d) (hn : ∀ m, d ≠ .interface m) (u : Value) (xt : TypeId) (ok : Bool) (w : World) :
    (Instr.typeAssert (.iface ty u) xt ty ok).run P w = .ok (if ok then .tuple #[u, .bool true] else u) w := by
  cases d <;> first | exact absurd rfl (hn _) | simp [Instr.typeAssert, run_underlying hd]
theorem run_ta_other {P : Program} {t ty : TypeId} {d : TypeDesc} (hd : P.underlying ty = some d) (hn : ∀ m, d ≠ .interface m) (hne : t ≠ ty) (u : Value) (xt : TypeId) {z : Value} (w : World) (hz : (zeroValue ty).run P w = .ok z w) :
    (Instr.typeAssert (.iface t u) xt ty true).run P w = .ok (.tuple #[z, .bool false]) w := by
  cases d <;> first | exact absurd rfl (hn _) | simp [Instr.typeAssert, run_underlying hd, hne, hz]
theorem run_ta_nil {P : Program} {ty : TypeId} {d : TypeDesc} (hd : P.underlying ty = some d) (hn : ∀ m, d ≠ .interface m) (xt : TypeId) {z : Value} (w : World) (hz : (zeroValue ty).run P w = .ok z w) :
    (Instr.typeAssert .nilIface xt ty true).run P w = .ok (.tuple #[z, .bool false]) w := by
  cases d <;> first | exact absurd rfl (hn _) | simp [Instr.typeAssert, run_underlying hd, hz]
theorem pu_typeAssert_ok (B : TbOk b) {x : Operand} {xt ty : TypeId} {ok : Bool} (ho : o.op = .typeAssert x xt ty ok) : PuOK b o (pu_typeAssert x ty ok) := by
  intro w0 ρ h w f e v hr he hp
  have hx := he x (by simp [ho, Op.operands])
  unfold pu_typeAssert at hp
  split at hp
  · rename_i i t u h1 h2
    rw [h2] at hx
    have hd := (B.ty _ _ h1).d
    obtain ⟨u', q1, q2⟩ := hx.iface_inv
    split at hp
    · cases hp
    · rename_i hni
      by_cases ht : t = ty
      · subst ht
        have hb : Nat.beq t t = true := by simp
        rw [hb] at hp
        have run := run_ta_same hd (fun m hm => hni m hm) u' xt ok w
        cases ok with
        | true => cases hp; exact ⟨.tuple #[u', .bool true], by simp [execOp, ho, q1, run], V.tuple_mk (.cons q2 (.cons (.bool _) .nil))⟩
        | false => cases hp; exact ⟨u', by simp [execOp, ho, q1, run], q2⟩
      · rw [beq_ne ht] at hp
        cases ok with
        | true =>
          simp only at hp
          split at hp
          · rename_i z hz
            cases hp
            obtain ⟨z', g1, g2⟩ := zeroOf_ok (ρ := ρ) (B.ty _ _ h1) hz w
            have run := run_ta_other hd (fun m hm => hni m hm) ht u' xt w g1
            exact ⟨.tuple #[z', .bool false], by simp [execOp, ho, q1, run], V.tuple_mk (.cons g2 (.cons (.bool _) .nil))⟩
          · cases hp
        | false => cases hp
  · rename_i i h1 h2
    rw [h2] at hx
    have hd := (B.ty _ _ h1).d
    have q1 := hx.nilIface_inv
    cases ok with
    | false => split at hp <;> first | (cases hp; done) | (rename_i hq _; cases hq; done)
    | true =>
      split at hp
      · cases hp
      · rename_i _ hni
        split at hp
        · rename_i z hz
          cases hp
          obtain ⟨z', g1, g2⟩ := zeroOf_ok (ρ := ρ) (B.ty _ _ h1) hz w
          have run := run_ta_nil hd (fun m hm => hni m hm) xt w g1
          exact ⟨.tuple #[z', .bool false], by simp [execOp, ho, q1, run], V.tuple_mk (.cons g2 (.cons (.bool _) .nil))⟩
        · cases hp
      · cases hp
  · cases hp
end
end Go.Ev
end

section
set_option linter.unusedVariables false
set_option linter.unusedSimpArgs false
namespace Go.Ev
open Go Go.RowKit
section
variable {ρ : Rho} {b : Tb} {o : Oper}
theorem bytesOf_eq : ∀ {l : List Value} {bs : List UInt8}, bytesOf l = some bs → ∃ ns : List Int, l = ns.map (.int .u8 ·) ∧ bs = ns.map fun n => UInt8.ofNat n.toNat
  | [], bs, h => by simp only [bytesOf] at h; cases h; exact ⟨[], rfl, rfl⟩
  | v :: r, bs, h => by
    unfold bytesOf at h
    split at h
    · cases ‹_ :: _ = []›
    · rename_i n r' heq
      cases heq
      split at h
      · rename_i l hl
        cases h
        obtain ⟨ns, h1, h2⟩ := bytesOf_eq hl
        exact ⟨n :: ns, by simp [h1], by simp [h2]⟩
      · cases h
    · cases h
theorem VL.ints {ns : List Int} {l' : List Value} (h : VL ρ (ns.map (.int .u8 ·)) l') : l' = ns.map (.int .u8 ·) := by
  induction ns generalizing l' with
  | nil => cases h; rfl
  | cons n r ih =>
    cases h with
    | cons h t => rw [h.int_inv, ih t]; rfl
theorem pu_convert_ok (B : TbOk b) {s d : TypeId} {x : Operand} (ho : o.op = .convert s d x) : PuOK b o (pu_convert s d x) := by
  intro w0 ρ h w f e v hr he hp
  have hx := he x (by simp [ho, Op.operands])
  have hgen := fun hp => pu_gen_ok (b := b) (o := o) (fun cs b => by rw [ho]; simp) w0 ρ h w f e v hr he hp
  unfold pu_convert at hp
  split at hp
  · -- whole numbers
    rename_i i k _ _ _ _ _ j n h1 h2 h3
    rw [h3] at hx
    cases hp
    have hs := (B.ty _ _ h1).d
    have hd := (B.ty _ _ h2).d
    exact ⟨.int k (k.wrap n), by simp [execOp, ho, hx.int_inv, convert, run_underlying hs, run_underlying hd, Conv.intToInt], .int _ _⟩
  · -- bytes to a string
    rename_i el _ _ _ _ _ _ _ _ _ _ base n cp h1 h2 h3
    rw [h3] at hx
    have hs := (B.ty _ _ h1).d
    have hd := (B.ty _ _ h2).d
    split at hp
    · rename_i _ _ _ _ _ h4
      cases hp
      have hel := (B.ty _ _ h4).d
      refine ⟨.string .empty, ?_, .string _⟩
      have hq := hx.slice0_inv
      simp [execOp, ho, hq, run_convert_bytes_string w s d el none n cp hs hel hd, Conv.bytesToString]
    · rename_i _ _ _ _ _ a h4
      have hel := (B.ty _ _ h4).d
      split at hp
      case h_2 => cases hp
      rename_i l hl
      split at hp
      case h_2 => cases hp
      rename_i bs hbs
      cases hp
      obtain ⟨ns, n1, n2⟩ := bytesOf_eq hbs
      refine ⟨.string ⟨bs.toArray⟩, ?_, .string _⟩
      have key : ∃ a' c', e x = .slice (some a') n c' ∧ (loadCells a' n).run b.P w = .ok (ns.map (Value.int .u8)).toArray w := by
        split at hl
        · cases hl
          obtain ⟨L, a', c', _, _, k3, _⟩ := hx.slice_inv
          have : ns = [] := by simpa using n1.symm
          subst this
          exact ⟨a', c', k3, by simp [loadCells, loadCellsFrom]⟩
        · rename_i m
          obtain ⟨L, c', k1, k2, k3, _⟩ := hx.slice_pos (by omega)
          obtain ⟨l', q1, q2, q3, q4, q5⟩ := hr.loadCells b.P k1 hl
          rw [n1] at q1
          rw [q1.ints] at q4
          exact ⟨_, _, k3, q4⟩
      obtain ⟨a', c', k1, k2⟩ := key
      have := run_bytesToString (P := b.P) w a' n c' ns k2
      rw [foldl_push_bytes] at this
      simp only [execOp, ho, k1, Sem.run_bind, run_convert_bytes_string w s d el (some a') n c' hs hel hd, this, Result.andThen_ok, Sem.run_pure, n2]
      congr 3
      simp [ByteArray.empty, ByteArray.emptyWithCapacity]
      rfl
    · cases hp
  · -- a pointer to an unsafe one
    rename_i t _ _ _ _ _ _ _ _ _ _ a h1 h2 h3
    rw [h3] at hx
    have hs := (B.ty _ _ h1).d
    have hd := (B.ty _ _ h2).d
    split at hp
    case h_2 => cases hp
    rename_i i r h4 h5
    split at hp
    case h_2 => cases hp
    rename_i m hm hlt
    cases hp
    obtain ⟨L, l1, l2, l3⟩ := hx.ptr_inv
    have hsz := run_sizeOf (B.ty _ _ h4) w
    have hsh := hr.shape l1 h5
    have hlen := (hr.row l1 (rowAt_get h5)).len
    have hlt' := blt_t hlt
    have hin : L.d + a.off < L.E := by
      rcases hlen with hh | hh
      · rw [hh, List.length_nil] at hlt'; omega
      · omega
    refine ⟨e x, ?_, hx⟩
    have hv : (viewAt L.b).run b.P w = .ok none w := by simp [viewAt, hsh]
    have hc : (cellsIn L.b).run b.P w = .ok (some L.E) w := by simp [cellsIn, hsh]
    have hns : ¬ (L.E ≤ L.d + a.off) := by omega
    have hsn : (Conv.seenAt ⟨L.b, L.d + a.off, none⟩).run b.P w = .ok ⟨L.b, L.d + a.off, none⟩ w := by simp [Conv.seenAt, hv]
    simp [execOp, ho, l3, convert, run_underlying hs, run_underlying hd, Conv.unsafePointer, hsn, hc, hsz, hm, hns]
  · -- and back
    rename_i _ _ _ _ _ u _ _ _ _ _ a h1 h2 h3
    rw [h3] at hx
    have hs := (B.ty _ _ h1).d
    have hd := (B.ty _ _ h2).d
    split at hp
    case h_2 => cases hp
    rename_i i x0 c0 el _ _ _ h4 h5
    split at hp
    case h_2 => cases hp
    rename_i m hm hlies
    cases hp
    obtain ⟨L, l1, l2, l3⟩ := hx.ptr_inv
    have hsz := run_sizeOf (B.ty _ _ h4) w
    have hsh := hr.shape l1 h5
    obtain ⟨e1, e2⟩ := ((hr.row l1 (rowAt_get h5)).exact rfl).resolve_left (by simp)
    refine ⟨e x, ?_, hx⟩
    have hv : (viewAt L.b).run b.P w = .ok none w := by simp [viewAt, hsh]
    have hsn : (Conv.seenAt ⟨L.b, L.d + a.off, none⟩).run b.P w = .ok ⟨L.b, L.d + a.off, none⟩ w := by simp [Conv.seenAt, hv]
    have hva : (variablesAt ⟨L.b, L.d + a.off, none⟩ u 1).run b.P w = .ok true w := by
      have e2' : L.E = (x0 :: c0).length := e2.symm
      simp only [variablesAt, Sem.run_bind, run_program, run_shape, hsh, Result.andThen_ok, Sem.run_pure, e1, Nat.zero_add, e2']
      rw [hlies]
    simp [execOp, ho, l3, convert, run_underlying hs, run_underlying hd, Conv.unsafePointer, hsn, hva, hsz, hm]
  · exact hgen hp
theorem arr1 {α : Type} {a : Array α} {x : α} (h : a.toList = [x]) : a = #[x] := by apply Array.toList_inj.1; simpa using h
open Go.Lib in
theorem pu_sliceData_ok {c : Call} (ho : o.op = .call c) (hc : c.callee = .builtin .unsafeSliceData) : PuOK b o (pu_sliceData c.args.toList) := by
  intro w0 ρ h w f e v hr he hp
  unfold pu_sliceData at hp
  split at hp
  case h_2 => cases hp
  rename_i x ha
  have ha' := arr1 ha
  have hx := he x (by simp [ho, Op.operands, Call.operands, hc, ha'])
  split at hp
  · rename_i n cp h1
    rw [h1] at hx; cases hp
    have run := run_unsafeSliceData_nil (P := b.P) w c.argTypes o.type n cp
    exact ⟨.pointer none, by simp [execOp, ho, resolve, hc, invoke, builtin, ha', hx.slice0_inv, run], .ptr0⟩
  · rename_i a n cp h1
    rw [h1] at hx; cases hp
    obtain ⟨L, c', k1, k2, k3, k4, k5⟩ := hx.slice_pos (by omega)
    have hne : c' ≠ 0 := by
      rcases k5 with k5 | k5
      · omega
      · rw [k4 k5]; omega
    have run := run_unsafeSliceData_row (P := b.P) w c.argTypes o.type ⟨L.b, L.d + a.off, none⟩ (n + 1) c' hne
    exact ⟨.pointer (some ⟨L.b, L.d + a.off, none⟩), by simp [execOp, ho, resolve, hc, invoke, builtin, ha', k3, run], .ptr k1 k2 rfl⟩
  · cases hp
/-- Every operation that reads. -/
theorem pure_ok (B : TbOk b) {p : PuR} (hc : clsOf b o.op = .pure p) : PuOK b o p := by
  have gen := pu_gen_ok (b := b) (o := o)
  cases ho : o.op <;> rw [ho] at hc <;> simp only [clsOf] at hc
  case move x => cases hc; exact pu_move_ok ho
  case pick c x y => cases hc; exact pu_pick_ok ho
  case build t ps => cases hc; exact pu_build_ok B ho
  case load t a => cases hc; exact pu_load_ok B ho
  case nilCheck x => cases hc; exact pu_nilCheck_ok ho
  case binOp op t x y yt => cases hc; exact pu_binOp_ok B ho
  case unOp u t x => cases hc; exact pu_unOp_ok ho
  case makeInterface t x => cases hc; exact pu_makeInterface_ok B ho
  case makeFunc fn a c => cases hc; exact pu_makeFunc_ok ho
  case slice t x lo hi mx => cases hc; exact pu_slice_ok B ho
  case fieldAddr s x j => cases hc; exact pu_fieldAddr_ok B ho
  case field s x j => cases hc; exact pu_field_ok B ho
  case indexAddr t x i => cases hc; exact pu_indexAddr_ok B ho
  case index t x i => cases hc; exact pu_index_ok B ho
  case lookup t x k ok => cases hc; exact pu_lookup_ok B ho
  case entry it => cases hc; exact pu_entry_ok ho
  case typeAssert x xt ty ok => cases hc; exact pu_typeAssert_ok B ho
  case extract x j => cases hc; exact pu_extract_ok ho
  case convert s d x =>
    unfold cls_convert at hc
    split at hc
    · cases hc
    · cases hc; exact pu_convert_ok B ho
  case call c =>
    unfold cls_call at hc
    split at hc
    · rename_i bi hb
      unfold cls_builtin at hc
      split at hc
      all_goals first | (cases hc; done) | skip
      · cases hc; exact pu_len_ok B ho hb
      · cases hc; exact pu_cap_ok B ho hb
      · cases hc; exact gen (by rw [ho]; simp)
      · cases hc; exact gen (by rw [ho]; simp)
      · cases hc; exact pu_sliceData_ok ho hb
    · rename_i x hb
      unfold cls_value at hc
      split at hc <;> cases hc
    · cases hc
  all_goals first | (cases hc; done) | (simp only [cls_bad] at hc; cases hc; done)
/-! ### Operations that lay one row -/
def LaOK (b : Tb) (o : Oper) (l : LaR) : Prop := ∀ (w0 : World) (ρ : Rho) (h : H) (w : World) (f : AF) (e : Operand → Value) (c : List Value) (t : TypeId) (k : Option (Nat × Nat)),
  HR w0 ρ h w → (∀ x ∈ o.op.operands.toList, V ρ (f.eval x) (e x)) → l b f o h = some (c, t, k) →
  ∃ c' : Array Value, (execOp e o).run b.P w = .ok (.value (laid w.heap.size k)) (w.alloc (.cells c' t)) ∧ VL ρ c c'.toList ∧ allOk c = true ∧ ∀ n m, k = some (n, m) → m < UNK
theorem la_alloc_ok (B : TbOk b) {el : TypeId} (ho : o.op = .alloc el) : LaOK b o (la_alloc el) := by
  intro w0 ρ h w f e c t k hr he hl
  unfold la_alloc at hl
  split at hl
  case h_2 => cases hl
  rename_i i hi
  cases hl
  have T := B.ty _ _ hi
  obtain ⟨z, z1, z2, _⟩ := run_zeroValue T w
  refine ⟨z.cells, ?_, by rw [z2]; exact V.zero T, T.ok, fun _ _ hh => by cases hh⟩
  simp [execOp, ho, Instr.alloc, z1, newVar, newRow, laid]
theorem la_box_ok {el : TypeId} {x : Operand} (ho : o.op = .box el x) : LaOK b o (la_box el x) := by
  intro w0 ρ h w f e c t k hr he hl
  have hx := he x (by simp [ho, Op.operands])
  unfold la_box at hl
  split at hl
  case h_2 => cases hl
  rename_i hok
  cases hl
  refine ⟨(e x).cells, ?_, hx.cells hok, hok, fun _ _ hh => by cases hh⟩
  simp [execOp, ho, Instr.box, newVar, newRow, laid]
theorem repl_get (z : List Value) : ∀ (n i : Nat), i < n * z.length → (repl z n)[i]? = z[i % z.length]?
  | 0, i, h => by simp at h
  | n + 1, i, h => by
    simp only [repl]
    have hz : 0 < z.length := by
      rcases Nat.eq_zero_or_pos z.length with h0 | h0
      · rw [h0] at h; simp at h
      · exact h0
    by_cases hi : i < z.length
    · rw [List.getElem?_append_left hi, Nat.mod_eq_of_lt hi]
    · have hm : (n + 1) * z.length = n * z.length + z.length := by rw [Nat.add_mul, Nat.one_mul]
      rw [List.getElem?_append_right (by omega), repl_get z n (i - z.length) (by omega)]
      congr 1
      exact (Nat.mod_eq_sub_mod (by omega)).symm
theorem repl_len (z : List Value) : ∀ n, (repl z n).length = n * z.length
  | 0 => by simp [repl]
  | n + 1 => by simp [repl, repl_len z n, Nat.add_mul]; omega
theorem made_repl (z : Array Value) (n : Nat) : (madeCells z (n * z.size)).toList = repl z.toList n := by
  apply List.ext_getElem?
  intro i
  by_cases hi : i < n * z.size
  · rw [repl_get z.toList n i (by simpa using hi)]
    have hz : 0 < z.size := by
      rcases Nat.eq_zero_or_pos z.size with h0 | h0
      · rw [h0] at hi; simp at hi
      · exact h0
    have hm : i % z.size < z.size := Nat.mod_lt _ hz
    simp [madeCells, hi, hm]
  · rw [List.getElem?_eq_none (by simp [madeCells]; omega), List.getElem?_eq_none (by rw [repl_len]; simp; omega)]
theorem allOk_append {l m : List Value} (h : allOk l = true) (g : allOk m = true) : allOk (l ++ m) = true := allOk_of fun v hv => by
  rcases List.mem_append.1 hv with hv | hv
  · exact allOk_mem h v hv
  · exact allOk_mem g v hv
theorem allOk_repl {z : List Value} (h : allOk z = true) : ∀ n, allOk (repl z n) = true
  | 0 => rfl
  | n + 1 => allOk_append h (allOk_repl h n)
theorem VL.repl {z : List Value} (h : VL ρ z z) : ∀ n, VL ρ (Ev.repl z n) (Ev.repl z n)
  | 0 => .nil
  | n + 1 => h.append (VL.repl h n)
theorem fill_allOk {place : Nat → Option (Nat × Nat)} : ∀ {ps : List (Nat × Value)} {c l : List Value}, allOk c = true → fillC place c ps = some l → allOk l = true ∧ l.length = c.length
  | [], c, l, hc, h => by simp only [fillC] at h; cases h; exact ⟨hc, rfl⟩
  | (i, v) :: r, c, l, hc, h => by
    simp only [fillC] at h
    split at h
    case h_2 => cases h
    rename_i off sz hp
    split at h
    case h_2 => cases h
    rename_i h1 h2
    split at h
    case h_2 => cases h
    rename_i c2 hput
    obtain ⟨h3, rfl⟩ := lput_eq _ _ _ hput
    have : allOk (c.take off ++ v.cells.toList ++ c.drop (off + v.cells.toList.length)) = true := allOk_of fun u hu => by
      simp only [List.mem_append] at hu
      rcases hu with (hu | hu) | hu
      · exact allOk_mem hc u (List.mem_of_mem_take hu)
      · exact allOk_mem h2 u hu
      · exact allOk_mem hc u (List.mem_of_mem_drop hu)
    obtain ⟨q1, q2⟩ := fill_allOk this h
    exact ⟨q1, by rw [q2, seg_len _ _ _ h3]⟩
theorem la_buildSlice_ok (B : TbOk b) {t : TypeId} {n : Nat} {ps : Array (Nat × Operand)} (ho : o.op = .buildSlice t n ps) : LaOK b o (la_buildSlice t n ps) := by
  intro w0 ρ h w f e c tt k hr he hl
  have hps : PL ρ (evalParts f ps.toList) (ps.map fun (i, x) => (i, e x)).toList := by
    have := evalParts_ok (ρ := ρ) (f := f) (e := e) (l := ps.toList) fun p hp => he p.2 (by simp only [ho, Op.operands, List.mem_map]; exact ⟨p, hp, rfl⟩)
    simpa using this
  unfold la_buildSlice at hl
  split at hl
  case h_2 => cases hl
  rename_i el _ _ _ _ _ h1
  have hd := (B.ty _ _ h1).d
  split at hl
  case h_2 => cases hl
  rename_i i h2
  have T := B.ty _ _ h2
  split at hl
  case h_2 => cases hl
  rename_i m hle hm
  split at hl
  case h_2 => cases hl
  rename_i l hf
  cases hl
  have hsz := run_sizeOf T w
  obtain ⟨z, z1, z2, _⟩ := run_zeroValue T w
  have hz : VL ρ (repl i.zero n) (madeCells z.cells (n * i.size)).toList := by
    have hzs : z.cells.size = i.size := by rw [← T.len, ← z2]; simp
    rw [← hzs, made_repl, z2]
    exact VL.repl (V.zero T) n
  obtain ⟨l', f1, f2⟩ := fill_ok (place' := fun j => some (j * i.size, i.size)) (fun j p hp => hp) hps hz hf
  have hle' : ¬ (16777216 < n * i.size) := by have := Nat.le_of_ble_eq_true hle; omega
  refine ⟨l', ?_, f2, (fill_allOk (allOk_repl T.ok n) hf).1, fun a b hh => ?_⟩
  · have f1' : Instr.fill (fun i_1 => some (i_1 * i.size, i.size)) ((Array.range (n * i.size)).map (z.cells[· % z.cells.size]!)) (ps.map fun (i, x) => (i, e x)).toList = some l' := f1
    have run : (Instr.buildSlice t n (ps.map fun (i, x) => (i, e x))).run b.P w = .ok (laid w.heap.size (some (n, n))) (w.alloc (.cells l' tt)) := by
      unfold Instr.buildSlice
      simp only [Sem.run_bind, run_underlying hd, Result.andThen_ok, hsz]
      rw [if_neg (by simpa using hle')]
      by_cases h0 : n * i.size = 0
      · simp only [h0, if_pos, Sem.run_pure, Result.andThen_ok, Array.range_zero', Sem.run_bind]
        rw [h0] at f1'
        have f1'' : Instr.fill (fun i_1 => some (i_1 * i.size, i.size)) (Array.map (fun x => (#[] : Array Value)[x % (#[] : Array Value).size]!) #[]) (ps.map fun (i, x) => (i, e x)).toList = some l' := by
          simpa [Array.range_zero'] using f1'
        rw [f1'']
        rfl
      · simp only [h0, if_false, Sem.run_pure, Result.andThen_ok, Sem.run_bind, z1, f1']
        rfl
    simp only [execOp, ho, Sem.run_bind, run, Result.andThen_ok, Sem.run_pure]
  · cases hh
    have h3 : n ≤ n * i.size := Nat.le_mul_of_pos_right _ (by omega)
    unfold UNK; omega
theorem la_makeSlice_ok (B : TbOk b) {t : TypeId} {ln cp : Operand} (ho : o.op = .makeSlice t ln cp) : LaOK b o (la_makeSlice t ln cp) := by
  intro w0 ρ h w f e c tt k hr he hl
  have h1' := he ln (by simp [ho, Op.operands])
  have h2' := he cp (by simp [ho, Op.operands])
  unfold la_makeSlice at hl
  split at hl
  case h_2 => cases hl
  rename_i el _ _ _ _ _ kl n kc m h1 h2 h3
  rw [h2] at h1'; rw [h3] at h2'
  have hd := (B.ty _ _ h1).d
  split at hl
  case h_2 => cases hl
  rename_i i h4
  have T := B.ty _ _ h4
  split at hl
  case h_2 => cases hl
  rename_i j c1 c2 c3 c4
  cases hl
  obtain ⟨inf, z, k1, k2, k3, k4, k5, k6, k7⟩ := T.inf
  have d1 : 0 ≤ n := by simpa using c1
  have d2 : n ≤ m := by simpa using c2
  have d3 : m.toNat * (i.bytes + 1) ≤ 16777216 := by simpa using c3
  have d3' : m.toNat * i.bytes + m.toNat ≤ 16777216 := by rw [Nat.mul_add, Nat.mul_one] at d3; exact d3
  have hb : (inf.bytes : Int) * m ≤ 281474976710656 := by
    have : (inf.bytes : Int) * m = ((m.toNat * i.bytes : Nat) : Int) := by rw [k3, Int.natCast_mul, Int.toNat_of_nonneg (by omega), Int.mul_comm]
    rw [this]; omega
  have run := run_make (P := b.P) w t tt inf z hd k1 k4 kl kc n m d1 d2 hb (by omega)
  have hzs : z.cells.size = inf.size := by rw [k2, ← T.len, ← k5]; simp
  refine ⟨madeCells z.cells (m.toNat * inf.size), ?_, ?_, allOk_repl T.ok _, fun a b hh => by cases hh; unfold UNK; omega⟩
  · simp only [execOp, ho, h1'.int_inv, h2'.int_inv, Sem.run_bind, run, Result.andThen_ok, Sem.run_pure]
    rfl
  · rw [← hzs, made_repl, k5]
    exact VL.repl (V.zero T) _
/-- Every operation that lays one row. -/
theorem lay_ok (B : TbOk b) {l : LaR} (hc : clsOf b o.op = .lay l) : LaOK b o l := by
  cases ho : o.op <;> rw [ho] at hc <;> simp only [clsOf] at hc
  case alloc el => cases hc; exact la_alloc_ok B ho
  case box el x => cases hc; exact la_box_ok ho
  case buildSlice t n ps => cases hc; exact la_buildSlice_ok B ho
  case makeSlice t l c => cases hc; exact la_makeSlice_ok B ho
  case convert s d x => unfold cls_convert at hc; split at hc <;> cases hc
  case call c =>
    unfold cls_call at hc
    split at hc
    · unfold cls_builtin at hc; split at hc <;> cases hc
    · unfold cls_value at hc; split at hc <;> cases hc
    · cases hc
  all_goals first | (cases hc; done) | (simp only [cls_bad] at hc; cases hc; done)
end
end Go.Ev
end
