/- Operations with effects. More operations with effects. More operations with effects: calls of values, maps, iterators, strings. All of them. The last operations with effects: entries, iterators, strings. All of them. Strings and bytes; every operation with an effect. -/
import Derived.Test.YtoefpcepplgkeaaGreatMc
import Derived.Deep.AppendSrc
import Derived.Lib.AppendZerosOnto
section
set_option linter.unusedVariables false
set_option linter.unusedSimpArgs false
namespace Go.Ev
open Go Go.RowKit
/-- More is known; of what lay there, nothing new. -/
def ExtN (ρ ρ' : Rho) (n : Nat) : Prop := Ext ρ ρ' ∧ ∀ r, r < n → ρ r = none → ρ' r = none
theorem ExtN.refl (ρ : Rho) (n : Nat) : ExtN ρ ρ n := ⟨Ext.refl ρ, fun _ _ h => h⟩
theorem ExtN.trans {ρ ρ' ρ'' : Rho} {n : Nat} (h : ExtN ρ ρ' n) (h' : ExtN ρ' ρ'' n) : ExtN ρ ρ'' n := ⟨h.1.trans h'.1, fun r hr hn => h'.2 r hr (h.2 r hr hn)⟩
theorem ExtN.mono {ρ ρ' : Rho} {n m : Nat} (h : ExtN ρ ρ' n) (hm : m ≤ n) : ExtN ρ ρ' m := ⟨h.1, fun r hr hn => h.2 r (by omega) hn⟩
theorem upd_extN {ρ : Rho} {r n : Nat} {L : Loc} (h : ρ r = none) (hn : n ≤ r) : ExtN ρ (upd ρ r L) n := ⟨upd_ext h, fun i hi hin => by rw [upd_other _ _ (by omega)]; exact hin⟩
/-- What an effect must be. -/
def EfPost (b : Tb) (w0 : World) (ρ : Rho) (h : H) (w : World) (s : Sem Next) : Ro → Prop
  | .val v h' => ∃ ρ' w' v', ExtN ρ ρ' h.next ∧ HR w0 ρ' h' w' ∧ s.run b.P w = .ok (.value v') w' ∧ V ρ' v v' ∧ h.next ≤ h'.next
  | .skip h' => ∃ w', HR w0 ρ h' w' ∧ s.run b.P w = .ok .skip w' ∧ h'.next = h.next
  | .enter g args h' => h' = h ∧ (∃ i, b.f g = some i) ∧ ∃ args', s.run b.P w = .ok (.enter g args') w ∧ VL ρ args args'.toList
  | .defer d h' => h' = h ∧ ∃ d', s.run b.P w = .ok (.defer d') w ∧ DR ρ d d'
  | .recov h' => h' = h ∧ s.run b.P w = .ok .recover w
  | .round l g nt tmps asg body h' => h' = h ∧ ∃ L tm', ρ l = some L ∧ s.run b.P w = .ok (.round L.b g tm' asg body) w ∧ TR ρ nt tmps tm'
  | .panic v h' => h' = h ∧ ∃ v', s.run b.P w = .halt (.panic v') w ∧ V ρ v v'
  | .bad => True
def EfOK (b : Tb) (o : Oper) (ef : EfR) : Prop := ∀ (w0 : World) (ρ : Rho) (h : H) (w : World) (f : AF) (e : Operand → Value),
  HR w0 ρ h w → (∀ x ∈ o.op.operands.toList, V ρ (f.eval x) (e x)) → EfPost b w0 ρ h w (execOp e o) (ef b f o h)
section
variable {ρ : Rho} {b : Tb} {o : Oper}
theorem ef_same {w0 : World} {h : H} {w : World} (hr : HR w0 ρ h w) {s : Sem Next} {v v' : Value} (hs : s.run b.P w = .ok (.value v') w) (hv : V ρ v v') : EfPost b w0 ρ h w s (.val v h) :=
  ⟨ρ, w, v', ExtN.refl _ _, hr, hs, hv, Nat.le_refl _⟩
theorem ef_gen_ok (hs : ∀ cs b, o.op ≠ .select cs b) : EfOK b o ef_gen := by
  intro w0 ρ h w f e hr he
  unfold ef_gen
  split
  · rename_i h1
    have hx := exec_flat hs he h1
    split
    · rename_i v h2
      split
      · rename_i h3
        exact ef_same hr (by rw [hx]; exact (prun_ok b.P _ w).1 _ h2) (V.of_flat ρ h3)
      · trivial
    · rename_i h2
      exact ⟨w, hr, by rw [hx]; exact (prun_ok b.P _ w).1 _ h2, rfl⟩
    · rename_i v h2
      split
      · rename_i h3
        exact ⟨rfl, v, by rw [hx]; exact (prun_ok b.P _ w).2 _ h2, V.of_flat ρ h3⟩
      · trivial
    · trivial
  · trivial
theorem ef_assign_ok {x : Operand} (ho : o.op = .assign x) : EfOK b o (fun b f o h => .val (f.eval x) h) := by
  intro w0 ρ h w f e hr he
  exact ef_same hr (by simp [execOp, ho]) (he x (by simp [ho, Op.operands]))
theorem V.cells_size {v v' : Value} (h : V ρ v v') (ho : allOk v.cells.toList = true) : v'.cells.size = v.cells.toList.length := by
  have := (h.cells ho).length
  simpa using this.symm
theorem storeAs_ok {h h' : H} {a : Addr} {l : List Value} (hs : storeAs h a l = some h') : allOk l = true := by
  unfold storeAs at hs
  split at hs
  · split at hs
    · rename_i h1 _ _; assumption
    · cases hs
  · cases hs
theorem ef_store_ok (B : TbOk b) {t : TypeId} {a x : Operand} (ho : o.op = .store t a x) : EfOK b o (ef_store t a x) := by
  intro w0 ρ h w f e hr he
  have ha := he a (by simp [ho, Op.operands])
  have hx := he x (by simp [ho, Op.operands])
  unfold ef_store
  split
  · rename_i ad i h1 h2
    rw [h1] at ha
    obtain ⟨L, l1, l2, l3⟩ := ha.ptr_inv
    simp only
    split
    · rename_i h3
      split
      · rename_i h' h4
        have hok := storeAs_ok h4
        obtain ⟨w', k1, k2, k3⟩ := hr.store b.P l1 h4 (hx.cells hok)
        have hsz := run_sizeOf (B.ty _ _ h2) w
        have hcs := hx.cells_size hok
        have h3' : (f.eval x).cells.toList.length = i.size := by simpa using h3
        refine ⟨w', k2, ?_, k3⟩
        have : (storeVar t ⟨L.b, L.d + ad.off, none⟩ (e x)).run b.P w = .ok () w' := by
          simp only [storeVar, Sem.run_bind, hsz, Result.andThen_ok]
          rw [if_neg (by simp; omega)]
          exact k1
        simp [execOp, ho, l3, Instr.storeAt, Instr.sureAddr, this]
      · trivial
    · trivial
  · trivial
/-! ### append -/
theorem growBy_le (m : Nat) : ∀ (n c : Nat), Builtin.growBy m n c ≤ max c (m + (m + 768) / 4)
  | 0, c => by simp [Builtin.growBy]; omega
  | n + 1, c => by
    simp only [Builtin.growBy]
    split
    · omega
    · have := growBy_le m n (c + (c + 768) / 4)
      omega
theorem nextcap_le {need cap : Nat} (h : cap < need) : Builtin.nextslicecap need cap ≤ 2 * need + 1024 := by
  unfold Builtin.nextslicecap
  split
  · omega
  · split
    · omega
    · have := growBy_le need 4 cap
      omega
theorem okRoom_ok {n bytes : Nat} (h : okRoom n bytes = true) : 0 < bytes ∧ (2 * n + 1024) * bytes ≤ 140737488355328 := by
  unfold okRoom at h
  split at h
  · cases h
  · exact ⟨by omega, by simpa using h⟩
theorem room_fits {need cap bytes : Nat} (h : okRoom need bytes = true) (hc : cap < need) : Builtin.nextslicecap need cap * bytes ≤ 281474976710656 ∧ ((need : Nat) : Int) ≤ 9223372036854775807 := by
  obtain ⟨h1, h2⟩ := okRoom_ok h
  have h3 : Builtin.nextslicecap need cap * bytes ≤ (2 * need + 1024) * bytes := Nat.mul_le_mul_right _ (nextcap_le hc)
  have h4 : (2 * need + 1024) * 1 ≤ (2 * need + 1024) * bytes := Nat.mul_le_mul_left _ h1
  omega
theorem run_append_here {P : Program} (w w' : World) (t tx ty e : TypeId) (i : TypeInfo) (ht : P.underlying t = some (.slice e)) (hi : P.info? e = some i) (a : Addr) (sLen sCap : Nat) (x : Value) (n : Nat) (news : List Value) (hs : Src P i.size tx x n news w)
    (hroom : sLen + n ≤ sCap) (hst : (storeCells (a.add (sLen * i.size)) news).run P w = .ok () w') :
    (Builtin.append_ #[t, tx] ty #[.slice (some a) sLen sCap, x]).run P w = .ok (.slice (some a) (sLen + n) sCap) w' := by
  rcases hs.kind with ⟨e', hk⟩ | hk <;> simp [Builtin.append_, run_underlying ht, run_underlying hk, sizeOf, typeInfo, hi, hs.len, hroom, hs.cells, hst]
theorem run_append_nilRoom {P : Program} (w : World) (t tx ty e : TypeId) (i : TypeInfo) (ht : P.underlying t = some (.slice e)) (hi : P.info? e = some i) (sLen sCap : Nat) (x : Value) (n : Nat) (news : List Value) (hs : Src P i.size tx x n news w)
    (hroom : sLen + n ≤ sCap) :
    (Builtin.append_ #[t, tx] ty #[.slice none sLen sCap, x]).run P w = .ok (.slice none (sLen + n) sCap) w := by
  rcases hs.kind with ⟨e', hk⟩ | hk <;> simp [Builtin.append_, run_underlying ht, run_underlying hk, sizeOf, typeInfo, hi, hs.len, hroom, hs.cells]
theorem VL.strCells (l : List UInt8) : VL ρ (l.map fun b => Value.int .u8 b.toNat) (l.map fun b => Value.int .u8 b.toNat) := by
  induction l with
  | nil => exact .nil
  | cons x r ih => exact .cons (.int _ _) ih
theorem allOk_str (l : List UInt8) : allOk (l.map fun b => Value.int .u8 b.toNat) = true := allOk_of fun v hv => by
  obtain ⟨_, _, rfl⟩ := List.mem_map.1 hv
  rfl
/-- What is appended. -/
theorem appended_ok (B : TbOk b) {w0 : World} {h : H} {w : World} (hr : HR w0 ρ h w) {tx : TypeId} {x x' : Value} {size : Nat} {l : List Value} {m : Nat} (hx : V ρ x x') (ha : appended b tx x h size = some (l, m)) :
    ∃ l', Src b.P size tx x' m l' w ∧ VL ρ l l' ∧ allOk l = true := by
  unfold appended at ha
  split at ha
  · rename_i e _ _ _ _ _ n c h1
    have hd := (B.ty _ _ h1).d
    split at ha
    · cases ha
      rw [hx.slice0_inv]
      exact ⟨[], Src.ofNil w hd c, .nil, rfl⟩
    · cases ha
  · rename_i e _ _ _ _ _ a n c h1
    have hd := (B.ty _ _ h1).d
    split at ha
    · cases ha
      obtain ⟨L, a', c', k1, k2, k3, k4⟩ := hx.slice_inv
      rw [k3]
      exact ⟨[], Src.ofSlice w hd a' 0 c' [] (by simp) (by simp) (by simp), .nil, rfl⟩
    · rename_i n
      split at ha
      · rename_i l2 hc
        cases ha
        obtain ⟨L, c', k1, k2, k3, _⟩ := hx.slice_pos (by omega)
        obtain ⟨l', q1, q2, q3, q4, q5⟩ := hr.loadCells b.P k1 hc
        rw [k3]
        exact ⟨l', Src.ofSlice w hd _ _ c' l' (by rw [← q1.length, q2]) q5 (q1.one q3), q1, q3⟩
      · cases ha
  · rename_i _ _ _ _ _ s h1
    have hd := (B.ty _ _ h1).d
    split at ha
    · rename_i hsz
      cases ha
      have hsz' : size = 1 := by simpa using hsz
      subst hsz'
      rw [hx.string_inv]
      have := Src.ofString (P := b.P) w hd s
      rw [bsize] at this
      exact ⟨_, this, VL.strCells _, allOk_str _⟩
    · cases ha
  · cases ha
theorem zeroCells_size (z : Array Value) (n : Nat) : (Builtin.zeroCells z n).size = n * z.size := by simp [Builtin.zeroCells]
theorem take_app (a b : List Value) : (a ++ b).take a.length = a := by simp
theorem aappend_ok (B : TbOk b) {w0 : World} {h h' : H} {w : World} (hr : HR w0 ρ h w) {t tx ty : TypeId} {s s' x x' v : Value} (hs : V ρ s s') (hx : V ρ x x') (ha : aappend b t tx s x h = some (v, h')) :
    ∃ ρ' w' v', ExtN ρ ρ' h.next ∧ HR w0 ρ' h' w' ∧ (Builtin.append_ #[t, tx] ty #[s', x']).run b.P w = .ok v' w' ∧ V ρ' v v' ∧ h.next ≤ h'.next := by
  unfold aappend at ha
  split at ha
  case h_2 => cases ha
  rename_i base n cap el _ _ _ _ _ h1
  have hd := (B.ty _ _ h1).d
  split at ha
  case h_2 => cases ha
  rename_i i h2
  have T := B.ty _ _ h2
  obtain ⟨inf, z, k1, k2, k3, k4, k5, k6, k7⟩ := T.inf
  have hzs : z.cells.size = i.size := by rw [← T.len, ← k5]; simp
  split at ha
  case h_1 => cases ha
  rename_i size' hsize0
  have hsize : i.size = size' + 1 := hsize0
  split at ha
  case h_1 => cases ha
  rename_i new m happ
  rw [← hsize] at happ
  obtain ⟨new', src, vnew, oknew⟩ := appended_ok B hr hx happ
  rw [← k2] at src
  have hnl : new'.length = m * i.size := by rw [src.newsLen, k2]
  split at ha
  case h_1 => cases ha
  rename_i hroom
  have hroom' : okRoom (n + m) inf.bytes = true := by rw [k3]; exact hroom
  -- a new row
  have moved : ∀ (base' : Option Addr) (cap' : Nat) (old old' : List Value) (h2 : H) (k : Nat) (par : Option (Nat × Nat)), s' = .slice base' n cap' → cap' < n + m → old.length = n * i.size → VL ρ old old' → allOk old = true →
      (Builtin.firstCells inf.size n (.slice base' n cap')).run b.P w.drew = .ok old'.toArray w.drew → HR w0 ρ h2 w.drew → h2.next = h.next + 1 → h2.get h.next = some (.row ⟨old ++ new, el, size' + 1, k, par, false⟩) →
      ∃ ρ' w' v', ExtN ρ ρ' h.next ∧ HR w0 ρ' h2 w' ∧ (Builtin.append_ #[t, tx] ty #[s', x']).run b.P w = .ok v' w' ∧ V ρ' (.slice (some ⟨h.next, 0, none⟩) (n + m) (UNK + (n + m))) v' ∧ h.next ≤ h2.next := by
    intro base' cap' old old' h2 kk par hs' hcap holdl vold okold hold hr3 hnx hget
    obtain ⟨f1, f2⟩ := room_fits hroom' hcap
    have run := run_append_grow_src (P := b.P) w t tx ty el inf z hd k1 k4 base' n cap' old' hold x' m new' src hcap f2 f1
    rw [← hs'] at run
    have hge : n + m ≤ grownCap w (n + m) cap' el := grownCap_ge w (n + m) cap' el
    generalize hG : grownCap w (n + m) cap' el = G at run hge
    generalize hC : ((old' ++ new').toArray ++ Builtin.zeroCells z.cells (G - (n + m))) = C at run
    have hlen : (old ++ new).length = (n + m) * i.size := by rw [List.length_append, holdl, vnew.length, hnl, Nat.add_mul]
    have hCs : C.size = G * i.size := by
      rw [← hC]
      have h3 := vold.length
      have : (G - (n + m)) * i.size + (n + m) * i.size = G * i.size := by rw [← Nat.add_mul, Nat.sub_add_cancel hge]
      simp [zeroCells_size, hzs]
      rw [← h3, holdl, hnl]
      have e2 : n * i.size + m * i.size = (n + m) * i.size := (Nat.add_mul _ _ _).symm
      omega
    have hρ : ρ h.next = none := hr.fresh (Nat.le_refl _)
    have hr4 := hr3.birth (r := h.next) (x := ⟨old ++ new, el, size' + 1, kk, par, false⟩) (c' := C) (by rw [hnx]; omega) hρ hget
      (allOk_append okold oknew) (by show (old ++ new).length ≤ C.size; rw [hlen, hCs]; exact Nat.mul_le_mul_right _ hge)
      (by
        show VL ρ (old ++ new) (C.toList.take (old ++ new).length)
        have e3 : C.toList = (old' ++ new') ++ (Builtin.zeroCells z.cells (G - (n + m))).toList := by rw [← hC]; simp
        have e4 : (old ++ new).length = (old' ++ new').length := (vold.append vnew).length
        rw [e3, e4, take_app]
        exact vold.append vnew)
      (fun hh => by cases hh) (0, 0) (fun j _ hh => by simp at hh)
    refine ⟨_, _, _, upd_extN hρ (Nat.le_refl _), hr4, run, ?_, by rw [hnx]; omega⟩
    refine .sliceU (L := ⟨w.drew.heap.size, 0, size' + 1, C.size⟩) (upd_same _ _ _) rfl (by unfold UNK; omega) (by omega) (by omega) (.inr ⟨by simp, ?_⟩)
    show 0 + 0 + G * (size' + 1) ≤ C.size
    rw [hCs, hsize]; omega
  have pushed : ∀ (old : List Value), HR w0 ρ (h.push (.row ⟨old ++ new, el, size' + 1, 0, none, false⟩)) w.drew := fun old =>
    (hr.congr rfl rfl rfl rfl : HR w0 ρ h w.drew).push _ (fun y hy => by cases hy; rfl)
  split at ha
  · -- there is room for sure
    rename_i hle
    have hle' := Nat.le_of_ble_eq_true hle
    split at ha
    · split at ha
      · cases ha
        have q := hs.slice0_inv
        refine ⟨ρ, w, .slice none n cap, ExtN.refl _ _, hr, ?_, .slice0 _ _, Nat.le_refl _⟩
        rw [q]
        have hc : n + 0 ≤ cap := by
          split at hle'
          · exact hle'
          · omega
        have := run_append_nilRoom (P := b.P) w t tx ty el inf hd k1 n cap x' 0 new' src hc
        simpa using this
      · cases ha
    · rename_i a
      obtain ⟨L, a', c', q1, q2, q3, q4⟩ := hs.slice_inv
      have hroomC : n + m ≤ c' := by
        split at hle'
        · rename_i hb
          have := blt_t hb
          rcases q4 with ⟨_, g, _⟩ | ⟨g, _⟩ <;> omega
        · rename_i hb
          have := blt_f hb
          rcases q4 with ⟨g, _⟩ | ⟨_, g, _⟩ <;> omega
      split at ha
      · -- nothing is appended
        cases ha
        have hn0 : new' = [] := List.eq_nil_of_length_eq_zero (by rw [hnl]; simp)
        subst hn0
        refine ⟨ρ, w, s', ExtN.refl _ _, hr, ?_, hs, Nat.le_refl _⟩
        have := run_append_here (P := b.P) w w t tx ty el inf hd k1 a' n c' x' 0 [] src hroomC rfl
        rw [q3]
        simpa using this
      · rename_i m
        split at ha
        · rename_i h2 hst
          cases ha
          have hA : a' = ⟨L.b, L.d + a.off, none⟩ := by
            rcases q4 with ⟨_, _, g⟩ | ⟨_, _, _, g⟩
            · exact g
            · rcases g with g | ⟨g, _⟩
              · omega
              · exact g
          obtain ⟨w', g1, g2, g3⟩ := hr.store b.P (a := ⟨a.block, a.off + n * (size' + 1), none⟩) q1 hst vnew
          refine ⟨ρ, w', .slice (some a') (n + (m + 1)) c', ExtN.refl _ _, g2, ?_, ?_, by omega⟩
          · rw [q3]
            refine run_append_here (P := b.P) w w' t tx ty el inf hd k1 a' n c' x' (m + 1) new' src hroomC ?_
            rw [hA, addr_add, k2, hsize, ← g1]
            simp [Nat.add_assoc]
          · rcases q4 with ⟨g5, g6, g7⟩ | ⟨g5, g6, g7, g8⟩
            · subst g6; exact .sliceK q1 q2 hA g5
            · refine .sliceU q1 q2 g5 g6 ?_ g8
              rename_i hb0 _ _ _ _
              have : Nat.blt cap UNK = false := by
                cases hq : Nat.blt cap UNK with
                | false => rfl
                | true => have := blt_t hq; omega
              rw [this] at hle'
              exact hle'
        · cases ha
  · rename_i hle
    have hle' := ble_f hle
    split at ha
    · -- a nil slice
      split at ha
      · rename_i hcap
        cases ha
        have hcap' := blt_t hcap
        rw [hcap] at hle'
        have := moved none cap [] [] _ 0 none hs.slice0_inv (by simpa using hle') (by simp) .nil rfl (by simp [Builtin.firstCells]) (pushed []) rfl (by rw [H.get_push, if_pos rfl])
        simpa using this
      · cases ha
    · rename_i a
      obtain ⟨L, a', c', q1, q2, q3, q4⟩ := hs.slice_inv
      split at ha
      case h_1 => cases ha
      rename_i r hrow
      split at ha
      case h_1 => cases ha
      rename_i old hold
      have hcA : cellsAt h a (n * (size' + 1)) = some old := by simp [cellsAt, hrow, hold]
      obtain ⟨old', o1, o2, o3, o4, o5⟩ := hr.loadCells b.P q1 hcA
      have holdl : old.length = n * i.size := by rw [o2, hsize]
      have hr2 : HR w0 ρ h w.drew := hr.congr rfl rfl rfl rfl
      have hfirst : (Builtin.firstCells inf.size n (.slice (some a') n c')).run b.P w.drew = .ok old'.toArray w.drew := by
        rcases Nat.eq_zero_or_pos n with h0 | h0
        · subst h0
          have : old' = [] := List.eq_nil_of_length_eq_zero (by rw [← o1.length, holdl]; simp)
          subst this
          simp [Builtin.firstCells, loadCells, loadCellsFrom]
        · have hA : a' = ⟨L.b, L.d + a.off, none⟩ := by
            rcases q4 with ⟨_, _, g⟩ | ⟨_, _, _, g⟩
            · exact g
            · rcases g with g | ⟨g, _⟩
              · omega
              · exact g
          obtain ⟨old2, p1, p2, p3, p4, p5⟩ := hr2.loadCells b.P q1 hcA
          have heq : old2 = old' := by
            apply List.ext_getElem?
            intro j
            have l1 := p1.length
            have l2 := o1.length
            by_cases hj : j < old2.length
            · have e1 := p5 j old2[j] (by simp)
              have hj' : j < old'.length := by omega
              have e2 := o5 j old'[j] (by simp)
              have e3 : w.drew.cell? ((⟨L.b, L.d + a.off, none⟩ : Addr).add j) = w.cell? ((⟨L.b, L.d + a.off, none⟩ : Addr).add j) := by simp
              rw [e3, e2] at e1
              simp [hj, hj', Option.some.inj e1]
            · rw [List.getElem?_eq_none (by omega), List.getElem?_eq_none (by omega)]
          rw [hA]
          simp only [Builtin.firstCells]
          rw [k2, hsize, ← heq]
          exact p4
      split at ha
      · rename_i hcap
        cases ha
        have hcap' := blt_t hcap
        rw [hcap] at hle'
        have hc' : c' = cap := by
          rcases q4 with ⟨_, g, _⟩ | ⟨g, _⟩
          · exact g
          · omega
        exact moved (some a') c' old old' _ 0 none q3 (by rw [hc']; exact hle') holdl o1 o3 hfirst (pushed old) rfl (by rw [H.get_push, if_pos rfl])
      · rename_i hcap
        have hcap' := blt_f hcap
        split at ha
        case h_2 => cases ha
        rename_i e1 e2 e3 e4
        cases ha
        have d1 : a.off + n * (size' + 1) = r.c.length := by simpa using e1
        have d2 : r.st = size' + 1 := by simpa using e2
        have d3 : r.e = el := by simpa using e4
        have hgr := rowAt_get hrow
        rcases q4 with ⟨g, _⟩ | ⟨g5, g6, g7, g8⟩
        · omega
        by_cases hin : n + m ≤ c'
        · -- in place
          have hnm : 0 < c' := by
            rw [hcap] at hle'
            have : n ≤ cap - UNK := g7
            omega
          obtain ⟨gA, gE⟩ := g8.resolve_left (by omega)
          have hLst : L.st = size' + 1 := by rw [(hr.row q1 hgr).st, d2]
          have hfit : L.d + r.c.length + new'.length ≤ L.E := by
            rw [← d1, hnl, hsize]
            rw [hLst] at gE
            have h5 : (n + m) * (size' + 1) ≤ c' * (size' + 1) := Nat.mul_le_mul_right _ hin
            rw [Nat.add_mul] at h5
            omega
          obtain ⟨w', s1, s2⟩ := hr.grow b.P (off := a.off) (k := n * (size' + 1)) q1 hgr e3 d1 hfit vnew oknew (by rw [d2]; omega)
          have hold' : old = (r.c.drop a.off).take (n * (size' + 1)) := by
            rw [ldrop_eq] at hold
            exact (ltake_eq _ _ hold).2
          rw [hold', ← d2]
          rw [← d2] at s2
          have hρ : ρ h.next = none := hr.fresh (Nat.le_refl _)
          refine ⟨_, w', .slice (some a') (n + m) c', upd_extN hρ (Nat.le_refl _), s2, ?_, ?_, by rw [H.next_push]; exact Nat.le_succ _⟩
          · rw [q3]
            refine run_append_here (P := b.P) w w' t tx ty el inf hd k1 a' n c' x' m new' src hin ?_
            rw [gA, addr_add, k2, hsize, ← s1, ← d1]
            simp [Nat.add_assoc]
          · refine .sliceU (L := ⟨L.b, L.d + a.off, r.st, L.E⟩) (upd_same _ _ _) rfl (by unfold UNK; omega) (by omega) (by omega) (.inr ⟨by rw [gA]; simp, ?_⟩)
            show L.d + a.off + 0 + c' * r.st ≤ L.E
            rw [← hLst.trans d2.symm]; omega
        · -- moved
          have hr2 : HR w0 ρ h w.drew := hr.congr rfl rfl rfl rfl
          have hr3 := hr2.spendPush (N := ⟨old ++ new, r.e, size' + 1, n * (size' + 1), some (a.block, a.off), false⟩) hgr e3 rfl
          exact moved (some a') c' old old' _ (n * (size' + 1)) (some (a.block, a.off)) q3 (by omega) holdl o1 o3 hfirst hr3 rfl (by rw [H.get_push, H.next_put, if_pos rfl, d3])
end
end Go.Ev
end

section
set_option linter.unusedVariables false
set_option linter.unusedSimpArgs false
namespace Go.Ev
open Go Go.RowKit
section
variable {ρ : Rho} {b : Tb} {o : Oper}
theorem V.add {L : Loc} {a : Addr} {n : Nat} : (⟨L.b, L.d + a.off, none⟩ : Addr).add n = ⟨L.b, L.d + (a.off + n), none⟩ := by rw [addr_add, Nat.add_assoc]
theorem args2 {α : Type} {a : Array α} {x y : α} (h : a.toList = [x, y]) : a = #[x, y] := by apply Array.toList_inj.1; simpa using h
/-- A row whose capacity is not known, just laid. -/
theorem HR.newRow {w0 : World} {h : H} {w : World} (hr : HR w0 ρ h w) {el st : Nat} {l l' : List Value} (C : Array Value) (G : Nat) (hst : st ≠ 0) (hn : l.length = G * st ∨ l.length ≤ C.size) (hC : C.toList.take l.length = l') (hv : VL ρ l l') (ho : allOk l = true) (hl : l.length ≤ C.size) (fr : Nat × Nat) (hfr : ∀ j, j < C.size → ¬ (fr.1 ≤ j ∧ j < fr.2)) :
    HR w0 (upd ρ h.next ⟨w.heap.size, 0, st, C.size⟩) (h.push (.row ⟨l, el, st, 0, none, false⟩)) (w.alloc (.cells C el fr)) := by
  have hρ : ρ h.next = none := hr.fresh (Nat.le_refl _)
  exact (hr.push (.row ⟨l, el, st, 0, none, false⟩) (fun y hy => by cases hy; rfl)).birth (r := h.next) (x := ⟨l, el, st, 0, none, false⟩) (by rw [H.next_push]; omega) hρ (by rw [H.get_push, if_pos rfl]) ho hl (by show VL ρ l _; rw [hC]; exact hv) (fun hh => absurd hh hst) fr hfr
theorem zerosNil_ok (B : TbOk b) {w0 : World} {h h' : H} {w : World} (hr : HR w0 ρ h w) {t tx ty : TypeId} {s s' x x' v : Value} (hs : V ρ s s') (hx : V ρ x x') (ha : zerosNil b t tx s x h = some (v, h')) :
    ∃ ρ' w' v', ExtN ρ ρ' h.next ∧ HR w0 ρ' h' w' ∧ (Builtin.append_ #[t, tx] ty #[s', x']).run b.P w = .ok v' w' ∧ V ρ' v v' ∧ h.next ≤ h'.next := by
  unfold zerosNil at ha
  split at ha
  case h_2 => cases ha
  rename_i el _ _ _ _ _ kn _ _ _ _ _ kq n h1 h2
  have hd := (B.ty _ _ h1).d
  have hdx := (B.ty _ _ h2).d
  split at ha
  case h_2 => cases ha
  rename_i i h3
  have T := B.ty _ _ h3
  obtain ⟨inf, z, k1, k2, k3, k4, k5, k6, k7⟩ := T.inf
  have hzs : z.cells.size = i.size := by rw [← T.len, ← k5]; simp
  split at ha
  case h_2 => cases ha
  rename_i size' hsize0 c1 c2 c3
  have hsize : i.size = size' + 1 := hsize0
  cases ha
  have hn : 0 < n := by simpa using c1
  obtain ⟨m, rfl⟩ := Int.eq_ofNat_of_zero_le (Int.le_of_lt hn)
  have c3' : okRoom m inf.bytes = true := by rw [k3]; simpa using c3
  have hm : 0 < m := by omega
  obtain ⟨f1, f2⟩ := room_fits (cap := 0) c3' hm
  obtain ⟨g1, g2⟩ := okRoom_ok c3'
  have hmb : m * inf.bytes ≤ 281474976710656 := by
    have : m * inf.bytes ≤ (2 * m + 1024) * inf.bytes := Nat.mul_le_mul_right _ (by omega)
    omega
  have run := Lib.run_append_grow_zeros (P := b.P) w t tx ty el inf z kq kn hd hdx k1 k4 none 0 0 [] (by simp [Builtin.firstCells]) m hm (by rw [k2]; omega) (by omega) (by simpa using f2) hmb (by simpa using f1)
  rw [Nat.zero_add] at run
  have hge : m ≤ grownCap w m 0 el := grownCap_ge w m 0 el
  generalize hG : grownCap w m 0 el = G at run hge
  generalize hCd : (([] : List Value).toArray ++ Builtin.zeroCells z.cells m ++ Builtin.zeroCells z.cells (G - m)) = C at run
  have hzc : ∀ k, (Builtin.zeroCells z.cells k).toList = repl i.zero k := fun k => by rw [← k5]; exact made_repl z.cells k
  have hlen : (repl i.zero m).length = m * i.size := by rw [repl_len, T.len]
  have hCs : C.size = G * i.size := by
    rw [← hCd]
    have : (G - m) * i.size + m * i.size = G * i.size := by rw [← Nat.add_mul, Nat.sub_add_cancel hge]
    simp [zeroCells_size, hzs]
    omega
  have hr2 : HR w0 ρ h w.drew := hr.congr rfl rfl rfl rfl
  have hle : (repl i.zero m).length ≤ C.size := by rw [hlen, hCs]; exact Nat.mul_le_mul_right _ (by omega)
  have hr3 := hr2.newRow (el := el) (st := size' + 1) (l := repl i.zero m) (l' := repl i.zero m) C G (by omega) (.inr hle) (by
      rw [← hCd]
      simp only [Array.toList_append, hzc]
      simp) (VL.repl (V.zero T) m) (allOk_repl T.ok m) hle (0, 0) (fun j _ hh => by simp at hh)
  have hρ : ρ h.next = none := hr.fresh (Nat.le_refl _)
  refine ⟨_, _, .slice (some ⟨w.heap.size, 0, none⟩) m G, upd_extN hρ (Nat.le_refl _), hr3, ?_, ?_, Nat.le_succ _⟩
  · rw [hs.slice0_inv, hx.int_inv]; exact run
  · show V _ (.slice (some ⟨h.next, 0, none⟩) m (UNK + m)) _
    refine .sliceU (L := ⟨w.drew.heap.size, 0, size' + 1, C.size⟩) (upd_same _ _ _) rfl (by unfold UNK; omega) (by omega) (by omega) (.inr ⟨by simp, ?_⟩)
    show 0 + 0 + G * (size' + 1) ≤ C.size
    rw [hCs, hsize]; omega
theorem ef_append_ok (B : TbOk b) {c : Call} (ho : o.op = .call c) (hc : c.callee = .builtin .append) : EfOK b o (ef_append c.args.toList c.argTypes.toList) := by
  intro w0 ρ h w f e hr he
  unfold ef_append
  split
  · rename_i s x t tx ha ht
    have ha' := args2 ha
    have ht' := args2 ht
    have hs := he s (by simp [ho, Op.operands, Call.operands, hc, ha'])
    have hx := he x (by simp [ho, Op.operands, Call.operands, hc, ha'])
    have run : ∀ v' w', (Builtin.append_ #[t, tx] o.type #[e s, e x]).run b.P w = .ok v' w' → (execOp e o).run b.P w = .ok (.value v') w' := by
      intro v' w' hv
      simp only [execOp, ho, resolve, hc, invoke, builtin, ha', ht']
      simp [hv]
    split
    · rename_i v h' hap
      obtain ⟨ρ', w', v', k1, k2, k3, k4, k5⟩ := aappend_ok (ty := o.type) B hr hs hx hap
      exact ⟨ρ', w', v', k1, k2, run _ _ k3, k4, k5⟩
    · split
      · rename_i v h' hap
        obtain ⟨ρ', w', v', k1, k2, k3, k4, k5⟩ := zerosNil_ok (ty := o.type) B hr hs hx hap
        exact ⟨ρ', w', v', k1, k2, run _ _ k3, k4, k5⟩
      · trivial
  · trivial
/-! ### copy, clear -/
theorem lenOfA_ok {v v' : Value} {n : Nat} (hv : V ρ v v') (h : lenOfA v = some n) (P : Program) (w : World) : (Builtin.lenOf v').run P w = .ok n w := by
  unfold lenOfA at h
  split at h
  · cases h
    obtain ⟨a', c', rfl⟩ := hv.slice_any
    rfl
  · cases h
    rw [hv.string_inv]
    simp [Builtin.lenOf]
  · cases h
theorem srcCells_ok {w0 : World} {h : H} {w : World} (hr : HR w0 ρ h w) (P : Program) {v v' : Value} {size k : Nat} {l : List Value} (hv : V ρ v v') (hs : srcCells h size k v = some l) :
    ∃ l', (Builtin.firstCells size k v').run P w = .ok l'.toArray w ∧ VL ρ l l' ∧ allOk l = true := by
  unfold srcCells at hs
  split at hs
  · split at hs
    · cases hs
      rw [hv.slice0_inv]
      exact ⟨[], by simp [Builtin.firstCells], .nil, rfl⟩
    · cases hs
  · split at hs
    · cases hs
      obtain ⟨L, a', c', k1, k2, k3, k4⟩ := hv.slice_inv
      rw [k3]
      exact ⟨[], by simp [Builtin.firstCells, loadCells, loadCellsFrom], .nil, rfl⟩
    · split at hs
      · rename_i hk
        have hk' := Nat.le_of_ble_eq_true hk
        obtain ⟨L, c', k1, k2, k3, _⟩ := hv.slice_pos (by omega)
        obtain ⟨l', q1, q2, q3, q4, q5⟩ := hr.loadCells P k1 hs
        rw [k3]
        exact ⟨l', by simpa [Builtin.firstCells] using q4, q1, q3⟩
      · cases hs
  · rename_i s
    split at hs
    · rename_i hk
      cases hs
      rw [hv.string_inv]
      refine ⟨_, ?_, VL.strCells _, allOk_str _⟩
      simp only [Builtin.firstCells, Sem.run_pure]
      congr 1
      apply Array.ext'
      simp [ByteArray.data_extract]
    · cases hs
  · cases hs
theorem min_nat (a b : Nat) : Nat.min a b = min a b := rfl
theorem ef_copy_ok (B : TbOk b) {c : Call} (ho : o.op = .call c) (hc : c.callee = .builtin .copy) : EfOK b o (ef_copy c.args.toList c.argTypes.toList) := by
  intro w0 ρ h w f e hr he
  unfold ef_copy
  split
  case h_2 => trivial
  rename_i d s t ts ha ht
  have ha' := args2 ha
  have hd' := he d (by simp [ho, Op.operands, Call.operands, hc, ha'])
  have hs' := he s (by simp [ho, Op.operands, Call.operands, hc, ha'])
  have ht' : c.argTypes[0]? = some t := by
    have : c.argTypes.toList[0]? = some t := by rw [ht]; rfl
    simpa using this
  have run : ∀ v' w', (Builtin.copy_ c.argTypes o.type #[e d, e s]).run b.P w = .ok v' w' → (execOp e o).run b.P w = .ok (.value v') w' := by
    intro v' w' hv
    simp only [execOp, ho, resolve, hc, invoke, builtin, ha']
    simp [hv]
  split
  case h_2 => trivial
  rename_i el _ _ _ _ _ base dn dc h1 h2
  rw [h2] at hd'
  have hdd := (B.ty _ _ h1).d
  split
  case h_2 => trivial
  rename_i i sn h3 h4
  have hsz := run_sizeOf (B.ty _ _ h3) w
  have hlen := lenOfA_ok hs' h4 b.P w
  simp only
  split
  · rename_i l hsc hk
    have hk' : Nat.min sn dn = 0 := hk
    obtain ⟨l', q1, q2, q3⟩ := srcCells_ok hr b.P hs' hsc
    obtain ⟨a', c', hdv⟩ := hd'.slice_any
    refine ef_same hr (v' := .int .i64 0) (run _ _ ?_) (.int _ _)
    have hl0 : l' = [] := by
      have hl : l = [] := by
        unfold srcCells at hsc
        rw [hk'] at hsc
        split at hsc
        · simpa using hsc.symm
        · simpa using hsc.symm
        · split at hsc
          · simpa using hsc.symm
          · cases hsc
        · cases hsc
      subst hl; cases q2; rfl
    subst hl0
    rw [hk'] at q1
    cases a' <;> simp [hdv, Builtin.copy_, ht', run_underlying hdd, hlen, hsz, hk', q1, storeCells, goInt]
  · rename_i l k a hsc hk
    have hk' : Nat.min sn dn = k + 1 := hk
    obtain ⟨l', q1, q2, q3⟩ := srcCells_ok hr b.P hs' hsc
    rw [hk'] at q1
    have hdn : 0 < dn := by rw [min_nat] at hk'; omega
    obtain ⟨L, c', k1, k2, k3, _⟩ := hd'.slice_pos hdn
    split
    · rename_i h' hst
      obtain ⟨w', s1, s2, s3⟩ := hr.store b.P k1 hst q2
      refine ⟨ρ, w', .int .i64 ((k + 1 : Nat) : Int), ExtN.refl _ _, s2, run _ _ ?_, .int _ _, by omega⟩
      simp [k3, Builtin.copy_, ht', run_underlying hdd, hlen, hsz, hk', q1, s1, goInt]
    · trivial
  · trivial
theorem ef_clear_ok (B : TbOk b) {c : Call} (ho : o.op = .call c) (hc : c.callee = .builtin .clear) : EfOK b o (ef_clear c.args.toList c.argTypes.toList) := by
  intro w0 ρ h w f e hr he
  unfold ef_clear
  split
  case h_2 => trivial
  rename_i x t ts ha ht
  have ha' := arr1 ha
  have hx := he x (by simp [ho, Op.operands, Call.operands, hc, ha'])
  have ht' : c.argTypes[0]? = some t := by
    have : c.argTypes.toList[0]? = some t := by rw [ht]; rfl
    simpa using this
  have run : ∀ v' w', (Builtin.clear_ c.argTypes o.type #[e x]).run b.P w = .ok v' w' → (execOp e o).run b.P w = .ok (.value v') w' := by
    intro v' w' hv
    simp only [execOp, ho, resolve, hc, invoke, builtin, ha']
    simp [hv]
  split
  · rename_i n cc el _ _ _ _ _ h1 h2
    rw [h1] at hx
    have hd := (B.ty _ _ h2).d
    refine ef_same hr (v' := .tuple #[]) (run _ _ ?_) (V.tuple_mk .nil)
    rw [hx.slice0_inv]
    simp only [Builtin.clear_, ht', List.getElem?_toArray, Sem.run_bind, run_underlying hd, Result.andThen_ok]
    simp [run_underlying hd]
  · rename_i a n cc el _ _ _ _ _ h1 h2
    rw [h1] at hx
    have hd := (B.ty _ _ h2).d
    split
    · obtain ⟨L, a', c', k1, k2, k3, k4⟩ := hx.slice_inv
      refine ef_same hr (v' := .tuple #[]) (run _ _ ?_) (V.tuple_mk .nil)
      rw [k3]
      simp only [Builtin.clear_, ht', List.getElem?_toArray, Sem.run_bind, run_underlying hd, Result.andThen_ok]
      simp [run_underlying hd]
    · rename_i n i h3
      have T := B.ty _ _ h3
      obtain ⟨z, z1, z2, _⟩ := run_zeroValue T w
      obtain ⟨L, c', k1, k2, k3, _⟩ := hx.slice_pos (by omega)
      split
      · rename_i h' hst
        obtain ⟨w', s1, s2, s3⟩ := hr.store b.P k1 hst (VL.repl (V.zero T) (n + 1))
        have hz : (Builtin.zeroCells z.cells (n + 1)).toList = repl i.zero (n + 1) := by rw [← z2]; exact made_repl z.cells (n + 1)
        refine ⟨ρ, w', .tuple #[], ExtN.refl _ _, s2, run _ _ ?_, V.tuple_mk .nil, by omega⟩
        rw [k3]
        simp only [Builtin.clear_, ht', List.getElem?_toArray, Sem.run_bind, run_underlying hd, Result.andThen_ok]
        simp [run_underlying hd, z1, hz, s1]
      · trivial
    · trivial
  · trivial
/-! ### Calls -/
theorem enterOk_ok (B : TbOk b) {w0 : World} {h : H} {w : World} {s : Sem Next} {g : FuncId} {args : List Value} {args' : Array Value} (hs : s = callFunc g args') (hv : VL ρ args args'.toList) : EfPost b w0 ρ h w s (enterOk b g args h) := by
  unfold enterOk
  split
  · rename_i i hi
    exact ⟨rfl, ⟨i, hi⟩, args', by rw [hs]; exact B.en g i hi args' w, hv⟩
  · trivial
theorem VL.args {f : AF} {e : Operand → Value} {a : Array Operand} (h : ∀ x ∈ a.toList, V ρ (f.eval x) (e x)) : VL ρ (a.toList.map f.eval) (a.map e).toList := by
  have := VL.map_eval (ρ := ρ) (f := f) (e := e) (l := a.toList) h
  simpa using this
theorem callFn_eq {c : Call} (ho : o.op = .call c) {x : Operand} (hc : c.callee = .value x) {e : Operand → Value} {g : FuncId} {a' c' : Array Value} (hx : e x = .func (.func g) a' c') : execOp e o = callFunc g (a' ++ c.args.map e ++ c') := by
  simp only [execOp, ho, resolve, hc, hx, Deferred.ofValue]
  rfl
theorem ef_fn_ok (B : TbOk b) {c : Call} {g : FuncId} (ho : o.op = .call c) (hc : c.callee = .value (.func g)) : EfOK b o (ef_fn g c.args) := by
  intro w0 ρ h w f e hr he
  have hg := he (.func g) (by simp [ho, Op.operands, Call.operands, hc])
  obtain ⟨a', c', e1, e2, e3⟩ := V.func_inv (f := g) (a := #[]) (c := #[]) hg
  have ha' : a' = #[] := by cases a'; cases e2; rfl
  have hc' : c' = #[] := by cases c'; cases e3; rfl
  subst ha' hc'
  have hargs := VL.args (ρ := ρ) (f := f) (e := e) (a := c.args) fun x hx => he x (by simp [ho, Op.operands, Call.operands, hc] at hx ⊢; exact .inr hx)
  have heq : execOp e o = callFunc g (c.args.map e) := by rw [callFn_eq ho hc e1]; simp
  unfold ef_fn
  split
  · rename_i i hi
    exact ⟨rfl, ⟨i, hi⟩, c.args.map e, by rw [heq]; exact B.en g i hi _ w, hargs⟩
  · split
    · rename_i hx
      have hex := B.ex g _ hx
      unfold x_mapsClone
      split
      · rename_i t r harg
        split
        · rename_i es clock hg2
          rw [harg] at hargs
          generalize hA : c.args.map e = A at hargs heq
          obtain ⟨v', hA2, hV⟩ : ∃ v', A = #[v'] ∧ V ρ (.iface t (.map (some r))) v' := by
            generalize hl : A.toList = l at hargs
            cases hargs with
            | cons hv ht =>
              cases ht
              exact ⟨_, arr1 hl, hv⟩
          obtain ⟨u, rfl, hu⟩ := hV.iface_inv
          obtain ⟨L, l1, rfl⟩ := hu.map_inv
          obtain ⟨es', m1, m2, m3⟩ := hr.map l1 hg2
          have hρ : ρ h.next = none := hr.fresh (Nat.le_refl _)
          have hr2 := hr.push (.obj (.map es clock)) (fun y hy => by cases hy)
          have hr3 := hr2.birthObj (r := h.next) (o := .map es clock) (o' := .map es' clock) (by rw [H.next_push]; omega) hρ (by rw [H.get_push, if_pos rfl]) (.map clock (m1.mono (upd_ext hρ)))
          refine ⟨_, _, .iface t (.map (some w.heap.size)), upd_extN hρ (Nat.le_refl _), hr3, ?_, .iface t (.map (L := ⟨w.heap.size, 0, 0, 0⟩) (upd_same _ _ _)), Nat.le_succ _⟩
          have hdef : Extern.MapsClone.clone #[.iface t (.map (some L.b))] = (do
              let .map entries clock ← getObj L.b | stuck "maps.clone: a map expected"
              pure (.iface t (.map (some (← newObj (.map entries clock)))))) := rfl
          rw [heq, hA2, hex #[.iface t (.map (some L.b))] w, hdef]
          simp [m3]
        · trivial
      · trivial
    · rename_i hx
      have hex := B.ex g _ hx
      split
      · rename_i x harg
        have := arr1 harg
        refine ef_same hr (v' := e x) ?_ (he x (by simp [ho, Op.operands, Call.operands, hc, this]))
        rw [heq, this]
        simpa using hex (e x) w
      · trivial
    · exact ef_gen_ok (fun cs bb => by rw [ho]; simp) w0 ρ h w f e hr he
theorem putAll_ok {nt : Nat} : ∀ {ps : List (Tmp × Value)} {ps' : List (Tmp × Value)} {t : T Value} {a : Array Value}, ps.map (·.1) = ps'.map (·.1) → VL ρ (ps.map (·.2)) (ps'.map (·.2)) → TR ρ nt t a →
    TR ρ nt (ef_callv.putAll nt t ps) (ps'.foldl (fun tmps (t, a) => tmps.setIfInBounds t a) a)
  | [], [], t, a, _, _, h => h
  | [], _ :: _, t, a, hm, _, h => by simp at hm
  | _ :: _, [], t, a, hm, _, h => by simp at hm
  | (d, v) :: r, (d', v') :: r', t, a, hm, hv, h => by
    simp at hm
    obtain ⟨rfl, hm⟩ := hm
    cases hv with
    | cons hv ht =>
      simp only [ef_callv.putAll, List.foldl_cons]
      refine putAll_ok hm ht ⟨by simp [h.size], fun i u hu => ?_⟩
      split at hu
      · rename_i hlt
        have hlt' := blt_t hlt
        rw [T.get_set] at hu
        split at hu
        · rename_i hi
          cases hu
          exact ⟨v', by rw [hi]; simp [h.size, hlt'], hv⟩
        · rename_i hi
          obtain ⟨u', k1, k2⟩ := h.get i u hu
          exact ⟨u', by rw [Array.getElem?_setIfInBounds_ne (Ne.symm hi)]; exact k1, k2⟩
      · rename_i hlt
        have hlt' := blt_f hlt
        obtain ⟨u', k1, k2⟩ := h.get i u hu
        refine ⟨u', ?_, k2⟩
        have : i < a.size := (Array.getElem?_eq_some_iff.1 k1).1
        rw [Array.getElem?_setIfInBounds_ne (by have := h.size; omega)]
        exact k1
end
end Go.Ev
end

section
set_option linter.unusedVariables false
set_option linter.unusedSimpArgs false
namespace Go.Ev
open Go Go.RowKit
section
variable {ρ : Rho} {b : Tb} {o : Oper}
theorem VL.zip_snd : ∀ {ps : List Tmp} {l l' : List Value}, VL ρ l l' → VL ρ ((ps.zip l).map (·.2)) ((ps.zip l').map (·.2)) ∧ (ps.zip l).map (·.1) = (ps.zip l').map (·.1)
  | [], _, _, _ => by simp; exact .nil
  | _ :: _, _, _, .nil => by simp; exact .nil
  | p :: ps, _, _, .cons h t => by
    obtain ⟨k1, k2⟩ := VL.zip_snd (ps := ps) t
    exact ⟨by simp only [List.zip_cons_cons, List.map_cons]; exact .cons h k1, by simp only [List.zip_cons_cons, List.map_cons, k2]⟩
theorem V.yield_inv {l : Nat} {a c : Array Value} {v' : Value} (h : V ρ (.func (.yield l) a c) v') : ∃ L, ρ l = some L ∧ v' = .func (.yield L.b) #[] #[] := by
  cases h with
  | yield h => exact ⟨_, h, rfl⟩
theorem HR.loop {w0 : World} {h : H} {w : World} (hr : HR w0 ρ h w) {r : Nat} {L : Loc} {st : LoopState} {pd : Option Code} {fn : FuncId} {nt : Nat} {tm : T Value} {ps : List Tmp} {asg bd : Code} {d : Nat}
    (hp : ρ r = some L) (hg : h.get r = some (.obj (.loop st pd fn nt tm ps asg bd d))) :
    ∃ tm' ps' D, ρ d = some D ∧ TR ρ nt tm tm' ∧ ps'.toList = ps ∧ w.heap[L.b]? = some (.loop ⟨st, pd, fn, tm', ps', asg, bd, D.b⟩) ∧ ∀ P : Program, (Instr.getLoop L.b).run P w = .ok ⟨st, pd, fn, tm', ps', asg, bd, D.b⟩ w := by
  obtain ⟨_, o', h1, h2⟩ := hr.obj hp hg
  cases h2 with
  | loop hd ht hps =>
    refine ⟨_, _, _, hd, ht, hps, h1, fun P => ?_⟩
    simp only [Instr.getLoop, Sem.run_bind, run_getObj h1 (by intro _ _ _ hh; cases hh), Result.andThen_ok, Sem.run_pure]
theorem ef_callv_ok (B : TbOk b) {c : Call} {x : Operand} (ho : o.op = .call c) (hc : c.callee = .value x) : EfOK b o (ef_callv x c.args) := by
  intro w0 ρ h w f e hr he
  have hx := he x (by simp [ho, Op.operands, Call.operands, hc])
  have hargs := VL.args (ρ := ρ) (f := f) (e := e) (a := c.args) fun x hx => he x (by simp [ho, Op.operands, Call.operands, hc] at hx ⊢; exact .inr hx)
  unfold ef_callv
  split
  · rename_i g a cp h1
    rw [h1] at hx
    obtain ⟨a', c', e1, e2, e3⟩ := hx.func_inv
    refine enterOk_ok B (callFn_eq ho hc e1) ?_
    have := e2.append (hargs.append e3)
    simpa using this
  · rename_i l a cp h1
    rw [h1] at hx
    split
    · rename_i st pd fn nt tm ps asg bd df hl ha hcp
      split
      · rename_i hlen
        obtain ⟨L, hL, hq⟩ := hx.yield_inv
        obtain ⟨tm', ps', D, d1, d2, d3, d4, d5⟩ := hr.loop hL hl
        have hsz : (c.args.map e).size = ps'.size := by
          have : c.args.toList.length = ps.length := by simpa using hlen
          rw [← d3] at this
          simpa using this
        obtain ⟨z1, z2⟩ := VL.zip_snd (ps := ps) hargs
        have ht := putAll_ok (nt := nt) z2 z1 d2
        refine ⟨rfl, L, _, hL, ?_, ht⟩
        have heq : execOp e o = Instr.yield L.b (c.args.map e) := by
          simp only [execOp, ho, resolve, hc, hq, Deferred.ofValue]
          show Instr.yield L.b (#[] ++ c.args.map e) = _
          simp
        rw [heq]
        simp only [Instr.yield, Sem.run_bind, d5, Result.andThen_ok]
        rw [if_neg (by simpa using hsz)]
        simp only [Sem.run_bind, Sem.run_pure, Result.andThen_ok]
        rw [← Array.foldl_toList, Array.toList_zip, d3]
      · trivial
    · trivial
  · trivial
theorem findM_ok {t : TypeId} {i : TI} {P : Program} (T : TyOk P t i) {m : String} {g : FuncId} (h : findM i.ms m = some g) (v : Value) (w : World) : (method (P.types.size + Made.depth) t v m).run P w = .ok (g, v) w := T.ms m g h v w
theorem ef_invoke_ok (B : TbOk b) {c : Call} {x : Operand} {m : String} (ho : o.op = .call c) (hc : c.callee = .invoke x m) : EfOK b o (ef_invoke x m c.args) := by
  intro w0 ρ h w f e hr he
  have hx := he x (by simp [ho, Op.operands, Call.operands, hc])
  have hargs := VL.args (ρ := ρ) (f := f) (e := e) (a := c.args) fun x hx => he x (by simp [ho, Op.operands, Call.operands, hc] at hx ⊢; exact .inr hx)
  unfold ef_invoke
  split
  · rename_i t v h1
    rw [h1] at hx
    obtain ⟨u, e1, e2⟩ := hx.iface_inv
    split
    · rename_i i h2
      split
      · rename_i g h3
        have hm := findM_ok (B.ty _ _ h2) h3 u w
        unfold enterOk
        split
        · rename_i fi hfi
          refine ⟨rfl, ⟨fi, hfi⟩, #[u] ++ c.args.map e, ?_, ?_⟩
          · have hen := B.en g fi hfi (#[u] ++ c.args.map e) w
            have h0 : (#[e x] ++ c.args.map e)[0]? = some (.iface t u) := by rw [e1, ← Array.getElem?_toList]; simp
            have h1 : (#[e x] ++ c.args.map e).extract 1 (#[e x] ++ c.args.map e).size = c.args.map e := by apply Array.ext'; simp; rw [List.take_of_length_le (by simp)]
            have heq : execOp e o = callMethod (.iface t u) m (c.args.map e) := by
              simp only [execOp, ho, resolve, hc]
              show invoke (.fn (.method m) #[]) (#[e x] ++ c.args.map e) = _
              simp only [invoke, h0, h1]
            rw [heq]
            simp only [callMethod, Sem.run_bind, run_program, Result.andThen_ok, hm]
            exact hen
          · have := VL.cons e2 hargs
            simpa using this
        · trivial
      · trivial
    · trivial
  · trivial
/-! ### Maps -/
theorem ML.append {l l' m m' : List MapEntry} (h : ML ρ l l') (g : ML ρ m m') : ML ρ (l ++ m) (l' ++ m') := by
  induction h with
  | nil => exact g
  | cons h t ih => exact .cons h ih
theorem mset_ok {k k' v v' : Value} (hk : V ρ k k') (hv : V ρ v v') : ∀ {es es' : List MapEntry} (i : Nat), ML ρ es es' → ML ρ (mset k v es i) (es'.modify i fun e => { e with key := k', val := v' })
  | [], _, i, .nil => by simp [mset]; exact .nil
  | _ :: _, _, 0, .cons h t => by simp only [mset, List.modify_zero_cons]; exact .cons ⟨hk, hv, h.b⟩ t
  | _ :: _, _, i + 1, .cons h t => by simp only [mset, List.modify_succ_cons]; exact .cons h (mset_ok hk hv i t)
theorem mdel_ok : ∀ {es es' : List MapEntry} (i : Nat), ML ρ es es' → ML ρ (mdel es i) (es'.eraseIdx i)
  | [], _, i, .nil => by simp [mdel]; exact .nil
  | _ :: _, _, 0, .cons h t => by simp only [mdel, List.eraseIdx_zero, List.tail_cons]; exact t
  | _ :: _, _, i + 1, .cons h t => by simp only [mdel, List.eraseIdx_cons_succ]; exact .cons h (mdel_ok i t)
/-- The key that is found is the key that is sought. -/
theorem keyAt_same {d : TypeDesc} {k : Value} (hf : flat1 k = true) : ∀ {es es' : List MapEntry} {i j : Nat} {v : Value}, ML ρ es es' → keyAt d k es i = some (some (j, v)) → i ≤ j ∧ ∃ x', es'[j - i]? = some x' ∧ Instr.sameBits 10000 x'.key k = true
  | [], _, i, j, v, .nil, h => by simp only [keyAt] at h; cases h
  | e :: es, _, i, j, v, .cons (e' := e') he ht, h => by
    simp only [keyAt] at h
    split at h
    · rename_i hq
      cases h
      refine ⟨Nat.le_refl _, e', by simp, ?_⟩
      unfold keyEq at hq
      split at hq
      · rename_i kk a kb c' hkey
        split at hq
        · rename_i h1
          have h1' : kk = kb := by simpa using h1
          have h2' : a = c' := by simpa using hq
          have hk := he.k
          rw [hkey] at hk
          rw [hk.int_inv]
          subst h1' h2'
          show Instr.sameBits (9999 + 1) _ _ = true
          simp [Instr.sameBits]
        · cases hq
      · rename_i s1 s2 hkey
        have hk := he.k
        rw [hkey] at hk
        rw [hk.string_inv]
        have h1 : s1.data.toList = s2.data.toList := by simpa using hq
        have : s1 = s2 := by
          have := Array.toList_inj.1 h1
          cases s1; cases s2; simp at this; rw [this]
        subst this
        show Instr.sameBits (9999 + 1) _ _ = true
        simp only [Instr.sameBits]
        show (s1.data == s1.data) = true
        simp
      · rename_i b1 b2 hkey
        have hk := he.k
        rw [hkey] at hk
        rw [hk.bool_inv]
        have : b1 = b2 := by simpa using hq
        subst this
        show Instr.sameBits (9999 + 1) _ _ = true
        simp [Instr.sameBits]
      · cases hq
    · obtain ⟨h1, x', h2, h3⟩ := keyAt_same hf ht h
      exact ⟨by omega, x', by rw [show j - i = (j - (i + 1)) + 1 by omega]; simpa using h2, h3⟩
    · cases h
theorem run_keyThatStays {P : Program} {old new : Value} (h : Instr.sameBits 10000 old new = true) (w : World) : (Instr.keyThatStays old new).run P w = .ok new w := by
  unfold Instr.keyThatStays
  rw [if_pos h]
  rfl
theorem ef_update_ok (B : TbOk b) {t : TypeId} {m k x : Operand} (ho : o.op = .mapUpdate t m k x ∨ o.op = .insert t m k x) : EfOK b o (ef_update t m k x) := by
  intro w0 ρ h w f e hr he
  have hops : o.op.operands = #[m, k, x] := by rcases ho with ho | ho <;> simp [ho, Op.operands]
  have hm := he m (by simp [hops])
  have hk := he k (by simp [hops])
  have hx := he x (by simp [hops])
  have heq : execOp e o = (do Instr.mapUpdate t (e m) (e k) (e x); pure .skip) := by rcases ho with ho | ho <;> simp only [execOp, ho]
  unfold ef_update
  split
  case h_2 => trivial
  rename_i r kt el _ _ _ _ _ h1 h2
  rw [h1] at hm
  have hd := (B.ty _ _ h2).d
  obtain ⟨L, l1, l2⟩ := hm.map_inv
  split
  case h_2 => trivial
  rename_i es clock ki h3 h4
  have hkd := (B.ty _ _ h4).d
  obtain ⟨es', m1, m2, m3⟩ := hr.map l1 h3
  have hsO : ∀ (o2 : Obj), (setObj L.b o2).run b.P w = .ok () { w with heap := w.heap.setIfInBounds L.b o2 } := by
    intro o2; simp only [setObj, Sem.run, m2]
  split
  · rename_i c1 c2 c3
    obtain ⟨r', f1, f2⟩ := keyAt_ok hk m1 c3
    rcases f2 with ⟨_, h⟩ | ⟨j', u, u', h, _, _⟩
    · subst h
      have hfk := run_findKey hkd f1 w
      have hr2 := hr.putObj (o2 := .map (es ++ [⟨f.eval k, f.eval x, clock⟩]) (clock + 1)) (o2' := .map (es'.push ⟨e k, e x, clock⟩) (clock + 1)) l1 h3 (.map _ (by simpa using m1.append (.cons (e := ⟨f.eval k, f.eval x, clock⟩) (e' := ⟨e k, e x, clock⟩) ⟨hk, hx, rfl⟩ .nil)))
      refine ⟨_, hr2, ?_, rfl⟩
      rw [heq]
      simp [Instr.mapUpdate, run_underlying hd, l2, m3, run_checkKey' hkd c1, hfk, hsO]
    · cases h
  · rename_i i v c1 c2 c3
    obtain ⟨r', f1, f2⟩ := keyAt_ok hk m1 c3
    rcases f2 with ⟨h, _⟩ | ⟨j', u, u', h, h', hV⟩
    · cases h
    · cases h
      subst h'
      have hfk := run_findKey hkd f1 w
      obtain ⟨_, x', q1, q2⟩ := keyAt_same c2 m1 c3
      have q1' : es'[i]? = some x' := by simpa using q1
      have hkk : e k = f.eval k := hk.flat1 c2
      rw [← hkk] at q2
      have hst := run_keyThatStays (P := b.P) q2 w
      have hr2 := hr.putObj (o2 := .map (mset (f.eval k) (f.eval x) es i) clock) (o2' := .map (es'.modify i fun en => { en with key := e k, val := e x }) clock) l1 h3 (.map _ (by simpa using mset_ok hk hx i m1))
      refine ⟨_, hr2, ?_, rfl⟩
      rw [heq]
      simp [Instr.mapUpdate, run_underlying hd, l2, m3, run_checkKey' hkd c1, hfk, q1', hst, hsO]
  · trivial
theorem modify_same : ∀ {l : List MapEntry} {j : Nat} {f g : MapEntry → MapEntry} {x : MapEntry}, l[j]? = some x → f x = g x → l.modify j f = l.modify j g
  | [], j, _, _, _, h, _ => by simp at h
  | y :: l, 0, f, g, x, h, hx => by simp at h; subst h; simp [List.modify_zero_cons, hx]
  | y :: l, j + 1, f, g, x, h, hx => by simp only [List.modify_succ_cons]; rw [modify_same (by simpa using h) hx]
theorem keyAt_val {d : TypeDesc} {k : Value} : ∀ {es : List MapEntry} {i j : Nat} {v : Value}, keyAt d k es i = some (some (j, v)) → ∃ x, i ≤ j ∧ es[j - i]? = some x ∧ x.val = v
  | [], i, j, v, h => by simp [keyAt] at h
  | e :: es, i, j, v, h => by
    simp only [keyAt] at h
    split at h
    · cases h; exact ⟨e, Nat.le_refl _, by simp, rfl⟩
    · obtain ⟨x, h1, h2, h3⟩ := keyAt_val h
      exact ⟨x, by omega, by rw [show j - i = (j - (i + 1)) + 1 by omega]; simpa using h2, h3⟩
    · cases h
theorem findNow_val {d : TypeDesc} {k : Value} : ∀ {es : List MapEntry} {i j : Nat} {v : Value}, Instr.findNow d k es i = some (some (j, v)) → ∃ x, i ≤ j ∧ es[j - i]? = some x ∧ x.val = v
  | [], i, j, v, h => by simp [Instr.findNow] at h
  | e :: es, i, j, v, h => by
    simp only [Instr.findNow] at h
    split at h
    · cases h; exact ⟨e, Nat.le_refl _, by simp, rfl⟩
    · obtain ⟨x, h1, h2, h3⟩ := findNow_val h
      exact ⟨x, by omega, by rw [show j - i = (j - (i + 1)) + 1 by omega]; simpa using h2, h3⟩
    · cases h
theorem ML.get {es es' : List MapEntry} (h : ML ρ es es') : ∀ {i : Nat} {x : MapEntry}, es[i]? = some x → ∃ x', es'[i]? = some x' ∧ MR ρ x x' := by
  induction h with
  | nil => intro i v hv; simp at hv
  | cons h t ih =>
    intro i v hv
    cases i with
    | zero => simp at hv; subst hv; exact ⟨_, rfl, h⟩
    | succ i => simp at hv; simpa using ih hv
theorem entry_same {d : TypeDesc} {k k' v u' : Value} {es : List MapEntry} {es' : Array MapEntry} {j : Nat} {x x' : MapEntry} (hm : ML ρ es es'.toList) (hk : V ρ k k') (h1 : keyAt d k es 0 = some (some (j, v))) (hx : es[j]? = some x) (hx' : es'[j]? = some x') (h2 : Instr.findNow d k' es'.toList 0 = some (some (j, u'))) :
    x'.val = u' ∧ x'.born = x.born := by
  obtain ⟨y, _, q1, q2⟩ := findNow_val h2
  have hy : es'[j]? = some y := by simpa using q1
  rw [hx'] at hy; cases hy
  obtain ⟨z, p1, p2⟩ := hm.get hx
  have hz : es'[j]? = some z := by simpa using p1
  rw [hx'] at hz; cases hz
  exact ⟨q2, p2.b⟩
theorem ef_mapEntry_ok (B : TbOk b) {t : TypeId} {m k : Operand} (ho : o.op = .mapEntry t m k) : EfOK b o (ef_mapEntry t m k) := by
  intro w0 ρ h w f e hr he
  have hm := he m (by simp [ho, Op.operands])
  have hk := he k (by simp [ho, Op.operands])
  unfold ef_mapEntry
  split
  case h_2 => trivial
  rename_i r kt el _ _ _ _ _ h1 h2
  rw [h1] at hm
  have hd := (B.ty _ _ h2).d
  obtain ⟨L, l1, l2⟩ := hm.map_inv
  split
  case h_2 => trivial
  rename_i es clock ki i h3 h4 h5
  have hkd := (B.ty _ _ h4).d
  obtain ⟨es', m1, m2, m3⟩ := hr.map l1 h3
  have hsO : ∀ (o2 : Obj), (setObj L.b o2).run b.P w = .ok () { w with heap := w.heap.setIfInBounds L.b o2 } := by
    intro o2; simp only [setObj, Sem.run, m2]
  split
  · rename_i c1 c2 c3
    split
    · rename_i z hz
      obtain ⟨z', g1, g2⟩ := zeroOf_ok (ρ := ρ) (B.ty _ _ h5) hz w
      obtain ⟨r', f1, f2⟩ := keyAt_ok hk m1 c3
      rcases f2 with ⟨_, h⟩ | ⟨j', u, u', h, _, _⟩
      · subst h
        have hfk := run_findKey hkd f1 w
        have hr2 := hr.putObj (o2 := .map (es ++ [⟨f.eval k, z, clock⟩]) (clock + 1)) (o2' := .map (es'.push ⟨e k, z', clock⟩) (clock + 1)) l1 h3 (.map _ (by simpa using m1.append (.cons (e := ⟨f.eval k, z, clock⟩) (e' := ⟨e k, z', clock⟩) ⟨hk, g2, rfl⟩ .nil)))
        refine ⟨ρ, _, .tuple #[z', goInt clock], ExtN.refl _ _, hr2, ?_, V.tuple_mk (.cons g2 (.cons (.int _ _) .nil)), Nat.le_refl _⟩
        simp [execOp, ho, Instr.mapEntry, run_underlying hd, l2, m3, run_checkKey' hkd c1, hfk, g1, hsO]
      · cases h
    · trivial
  · rename_i j v c1 c2 c3
    split
    · rename_i x hx
      obtain ⟨r', f1, f2⟩ := keyAt_ok hk m1 c3
      rcases f2 with ⟨h, _⟩ | ⟨j', u, u', h, h', hV⟩
      · cases h
      · cases h
        subst h'
        have hfk := run_findKey hkd f1 w
        obtain ⟨_, x', q1, q2⟩ := keyAt_same c2 m1 c3
        have q1' : es'[j]? = some x' := by simpa using q1
        have hkk : e k = f.eval k := hk.flat1 c2
        rw [← hkk] at q2
        have hst := run_keyThatStays (P := b.P) q2 w
        obtain ⟨hv', hb⟩ : x'.val = u' ∧ x'.born = x.born := entry_same m1 hk c3 hx q1' f1
        have hr2 := hr.putObj (o2 := .map (mset (f.eval k) v es j) clock) (o2' := .map (es'.modify j fun en => { en with key := e k }) clock) l1 h3 (.map _ (by
          have h9 := mset_ok hk hV j m1
          have : (es'.modify j fun en => { en with key := e k }).toList = es'.toList.modify j fun en => { en with key := e k, val := u' } := by
            simp only [Array.toList_modify]
            exact modify_same (by simpa using q1') (by simp [← hv'])
          rw [this]; exact h9))
        refine ⟨ρ, _, .tuple #[u', goInt x'.born], ExtN.refl _ _, hr2, ?_, V.tuple_mk (.cons hV (.cons (by rw [hb]; exact .int _ _) .nil)), Nat.le_refl _⟩
        simp [execOp, ho, Instr.mapEntry, run_underlying hd, l2, m3, run_checkKey' hkd c1, hfk, q1', hst, hsO]
    · trivial
  · trivial
end
end Go.Ev
end

section
set_option linter.unusedVariables false
set_option linter.unusedSimpArgs false
namespace Go.Ev
open Go Go.RowKit
section
variable {ρ : Rho} {b : Tb} {o : Oper}
theorem run_setObj {P : Program} {w : World} {r : Nat} {o : Obj} (h : w.heap[r]? = some o) (hn : ∀ c e f, o ≠ .cells c e f) (o2 : Obj) : (setObj r o2).run P w = .ok () { w with heap := w.heap.setIfInBounds r o2 } := by
  simp only [setObj, Sem.run, h]
theorem bornIdx_ok {n : Int} : ∀ {es es' : List MapEntry} {i j : Nat} {k : Value}, ML ρ es es' → bornIdx n es i = some (j, k) → ∃ x x', i ≤ j ∧ es'.findIdx? (fun e => (e.born : Int) == n) = some (j - i) ∧ es[j - i]? = some x ∧ es'[j - i]? = some x' ∧ x.key = k
  | [], _, i, j, k, .nil, h => by simp [bornIdx] at h
  | e :: es, _, i, j, k, .cons (e' := e') he ht, h => by
    simp only [bornIdx] at h
    split at h
    · rename_i hq
      cases h
      have : ((e'.born : Int) == n) = true := by rw [he.b]; simpa using hq
      exact ⟨e, e', Nat.le_refl _, by simp [List.findIdx?_cons, this], by simp, by simp, rfl⟩
    · rename_i hq
      obtain ⟨x, x', h1, h2, h3, h4, h5⟩ := bornIdx_ok ht h
      have : ((e'.born : Int) == n) = false := by rw [he.b]; simpa using hq
      have hji : j - i = (j - (i + 1)) + 1 := by omega
      exact ⟨x, x', by omega, by simp [List.findIdx?_cons, this, h2, hji], by rw [hji]; simpa using h3, by rw [hji]; simpa using h4, h5⟩
theorem ef_entryStore_ok (B : TbOk b) {t : TypeId} {m s x : Operand} (ho : o.op = .entryStore t m s x) : EfOK b o (ef_entryStore m s x) := by
  intro w0 ρ h w f e hr he
  have hm := he m (by simp [ho, Op.operands])
  have hs := he s (by simp [ho, Op.operands])
  have hx := he x (by simp [ho, Op.operands])
  unfold ef_entryStore
  split
  case h_2 => trivial
  rename_i r k n h1 h2
  rw [h1] at hm; rw [h2] at hs
  obtain ⟨L, l1, l2⟩ := hm.map_inv
  split
  case h_2 => trivial
  rename_i es clock h3
  obtain ⟨es', m1, m2, m3⟩ := hr.map l1 h3
  split
  case h_2 => trivial
  rename_i i key hb
  obtain ⟨y, y', _, q2, q3, q4, q5⟩ := bornIdx_ok m1 hb
  rw [Nat.sub_zero] at q2 q3 q4
  obtain ⟨y2, p1, p2⟩ := m1.get q3
  rw [q4] at p1; cases p1
  have q4' : es'[i]? = some y' := by simpa using q4
  have hfi : es'.findIdx? (fun e => (e.born : Int) == n) = some i := by
    obtain ⟨l, rfl⟩ : ∃ l : List MapEntry, es' = l.toArray := ⟨es'.toList, by simp⟩
    rw [List.findIdx?_toArray]; simpa using q2
  have hr2 := hr.putObj (o2 := .map (mset key (f.eval x) es i) clock) (o2' := .map (es'.modify i fun en => { en with val := e x }) clock) l1 h3 (.map _ (by
    have h9 := mset_ok p2.k hx i m1
    rw [q5] at h9
    have : (es'.modify i fun en => { en with val := e x }).toList = es'.toList.modify i fun en => { en with key := y'.key, val := e x } := by
      simp only [Array.toList_modify]
      exact modify_same q4 rfl
    rw [this]; exact h9))
  refine ⟨_, hr2, ?_, rfl⟩
  have hsO := run_setObj (P := b.P) m2 (by intro _ _ _ hh; cases hh) (.map (es'.modify i fun en => { en with val := e x }) clock)
  simp [execOp, ho, Instr.entryStore, l2, m3, hs.int_inv, asInt, asIntOf, hfi, hsO]
theorem ef_delete_ok (B : TbOk b) {c : Call} (ho : o.op = .call c) (hc : c.callee = .builtin .delete) : EfOK b o (ef_delete c.args.toList c.argTypes.toList) := by
  intro w0 ρ h w f e hr he
  unfold ef_delete
  split
  case h_2 => trivial
  rename_i m k t ts ha ht
  have ha' := args2 ha
  have hm := he m (by simp [ho, Op.operands, Call.operands, hc, ha'])
  have hk := he k (by simp [ho, Op.operands, Call.operands, hc, ha'])
  have ht' : c.argTypes[0]? = some t := by
    have : c.argTypes.toList[0]? = some t := by rw [ht]; rfl
    simpa using this
  have run : ∀ v' w', (Builtin.delete_ c.argTypes o.type #[e m, e k]).run b.P w = .ok v' w' → (execOp e o).run b.P w = .ok (.value v') w' := by
    intro v' w' hv
    simp only [execOp, ho, resolve, hc, invoke, builtin, ha']
    simp [hv]
  split
  case h_2 => trivial
  rename_i r kt el _ _ _ _ _ h1 h2
  rw [h1] at hm
  have hd := (B.ty _ _ h2).d
  obtain ⟨L, l1, l2⟩ := hm.map_inv
  split
  case h_2 => trivial
  rename_i es clock ki h3 h4
  have hkd := (B.ty _ _ h4).d
  obtain ⟨es', m1, m2, m3⟩ := hr.map l1 h3
  have hsO := fun o2 => run_setObj (P := b.P) m2 (by intro _ _ _ hh; cases hh) o2
  split
  · rename_i c1 c3
    obtain ⟨r', f1, f2⟩ := keyAt_ok hk m1 c3
    rcases f2 with ⟨_, h⟩ | ⟨j', u, u', h, _, _⟩
    · subst h
      have hfk := run_findKey hkd f1 w
      have hr2 := hr.putObj (o2 := .map es clock) (o2' := .map es' clock) l1 h3 (.map _ m1)
      refine ⟨ρ, _, .tuple #[], ExtN.refl _ _, hr2, run _ _ ?_, V.tuple_mk .nil, Nat.le_refl _⟩
      simp [Builtin.delete_, ht', run_underlying hd, l2, m3, run_checkKey' hkd c1, hfk, hsO]
    · cases h
  · rename_i j v c1 c3
    obtain ⟨r', f1, f2⟩ := keyAt_ok hk m1 c3
    rcases f2 with ⟨h, _⟩ | ⟨j', u, u', h, h', hV⟩
    · cases h
    · cases h
      subst h'
      have hfk := run_findKey hkd f1 w
      have hr2 := hr.putObj (o2 := .map (mdel es j) clock) (o2' := .map (es'.eraseIdxIfInBounds j) clock) l1 h3 (.map _ (by
        have h9 := mdel_ok j m1
        have : (es'.eraseIdxIfInBounds j).toList = es'.toList.eraseIdx j := by
          unfold Array.eraseIdxIfInBounds
          split
          · simp
          · rename_i hh; rw [List.eraseIdx_of_length_le (by simpa using hh)]
        rw [this]; exact h9))
      refine ⟨ρ, _, .tuple #[], ExtN.refl _ _, hr2, run _ _ ?_, V.tuple_mk .nil, Nat.le_refl _⟩
      simp [Builtin.delete_, ht', run_underlying hd, l2, m3, run_checkKey' hkd c1, hfk, hsO]
  · trivial
/-- An object that is laid. -/
theorem HR.newObj {w0 : World} {h : H} {w : World} (hr : HR w0 ρ h w) {ob : AObj} {ob' : Obj} (hv : OR ρ ob ob') :
    HR w0 (upd ρ h.next ⟨w.heap.size, 0, 0, 0⟩) (h.push (.obj ob)) (w.alloc ob') := by
  have hρ : ρ h.next = none := hr.fresh (Nat.le_refl _)
  exact (hr.push (.obj ob) (fun y hy => by cases hy)).birthObj (r := h.next) (by rw [H.next_push]; omega) hρ (by rw [H.get_push, if_pos rfl]) (hv.mono (upd_ext hρ))
theorem ef_makeMap_ok (B : TbOk b) {t : TypeId} {r : Option Operand} (ho : o.op = .makeMap t r) : EfOK b o (ef_makeMap t r) := by
  intro w0 ρ h w f e hr he
  have hρ : ρ h.next = none := hr.fresh (Nat.le_refl _)
  have hr2 := hr.newObj (ob := .map [] 0) (ob' := .map #[] 0) (.map 0 .nil)
  unfold ef_makeMap
  split
  · refine ⟨_, _, .map (some w.heap.size), upd_extN hρ (Nat.le_refl _), hr2, ?_, .map (L := ⟨w.heap.size, 0, 0, 0⟩) (upd_same _ _ _), Nat.le_succ _⟩
    simp [execOp, ho, Instr.makeMap]
  · rename_i x
    have hx := he x (by simp [ho, Op.operands])
    split
    · rename_i kt el _ _ _ _ _ k n h1 h2
      rw [h2] at hx
      have hd := (B.ty _ _ h1).d
      refine ⟨_, _, .map (some w.heap.size), upd_extN hρ (Nat.le_refl _), hr2, ?_, .map (L := ⟨w.heap.size, 0, 0, 0⟩) (upd_same _ _ _), Nat.le_succ _⟩
      simp [execOp, ho, Instr.makeMap, run_underlying hd, hx.int_inv, asInt, asIntOf]
    · trivial
theorem ef_range_ok (B : TbOk b) {t : TypeId} {x : Operand} (ho : o.op = .range t x) : EfOK b o (ef_range t x) := by
  intro w0 ρ h w f e hr he
  have hx := he x (by simp [ho, Op.operands])
  have hρ : ρ h.next = none := hr.fresh (Nat.le_refl _)
  have key : ∀ {ob : AObj} {ob' : Obj}, OR ρ ob ob' → (execOp e o).run b.P w = .ok (.value (.pointer (some ⟨w.heap.size, 0, none⟩))) (w.alloc ob') →
      EfPost b w0 ρ h w (execOp e o) (.val (.pointer (some ⟨h.next, 0, none⟩)) (h.push (.obj ob))) := fun {ob ob'} hv hs =>
    ⟨_, _, _, upd_extN hρ (Nat.le_refl _), hr.newObj hv, hs, .ptr (L := ⟨w.heap.size, 0, 0, 0⟩) (upd_same _ _ _) rfl rfl, Nat.le_succ _⟩
  unfold ef_range
  split
  · rename_i _ _ _ _ _ s h1 h2
    rw [h2] at hx
    have hd := (B.ty _ _ h1).d
    refine key (.str s 0) ?_
    simp [execOp, ho, Instr.range, run_underlying hd, hx.string_inv]
  · rename_i _ _ _ _ _ _ _ h1 h2
    rw [h2] at hx
    have hd := (B.ty _ _ h1).d
    refine key (.iter0 (seen' := #[]) 0 0 rfl) ?_
    simp [execOp, ho, Instr.range, run_underlying hd, hx.map0_inv]
  · rename_i _ _ _ _ _ _ _ m h1 h2
    rw [h2] at hx
    have hd := (B.ty _ _ h1).d
    obtain ⟨L, l1, l2⟩ := hx.map_inv
    split
    · rename_i es clock h3
      obtain ⟨es', m1, m2, m3⟩ := hr.map l1 h3
      refine key (.iter (seen' := #[]) clock clock l1 rfl) ?_
      simp [execOp, ho, Instr.range, run_underlying hd, l2, m3]
    · trivial
  · trivial
theorem ef_next_ok (B : TbOk b) {it : Operand} {isS : Bool} (ho : o.op = .next it isS) : EfOK b o (ef_next it isS) := by
  intro w0 ρ h w f e hr he
  have hx := he it (by simp [ho, Op.operands])
  unfold ef_next
  split
  case h_2 => trivial
  rename_i r spot h1
  rw [h1] at hx
  obtain ⟨L, l1, l2, l3⟩ := hx.ptr_inv
  have hl3 : ∀ {ob}, h.get r = some (.obj ob) → e it = .pointer (some ⟨L.b, 0, none⟩) := fun hg => by rw [l3]; simp [(hr.obj l1 hg).1]
  split
  · rename_i s pos h2
    have q := hl3 h2
    obtain ⟨_, o', k1, k2⟩ := hr.obj l1 h2
    cases k2
    have hg := run_getObj (P := b.P) k1 (by intro _ _ _ hh; cases hh)
    split
    · rename_i hlt
      have hlt' := blt_t hlt
      have hsz : pos < s.size := by rw [bsize]; exact hlt'
      have hr2 := hr.putObj (o2 := .strIter s (pos + (Utf8.decode s pos).2)) (o2' := .stringIter s (pos + (Utf8.decode s pos).2)) l1 h2 (.str _ _)
      have hsO := run_setObj (P := b.P) k1 (by intro _ _ _ hh; cases hh) (.stringIter s (pos + (Utf8.decode s pos).2))
      refine ⟨ρ, _, _, ExtN.refl _ _, hr2, ?_, V.tuple_mk (.cons (.bool _) (.cons (.int _ _) (.cons (.int _ _) .nil))), Nat.le_refl _⟩
      simp [execOp, ho, Instr.next, q, hg, hsz, hsO]
      rfl
    · rename_i hlt
      have hsz : ¬ pos < s.size := by rw [bsize]; have := blt_f hlt; omega
      refine ef_same hr (v' := .tuple #[.bool false]) ?_ (V.tuple_mk (.cons (.bool _) .nil))
      simp [execOp, ho, Instr.next, q, hg, hsz]
  · rename_i s2 seen last h2
    have q := hl3 h2
    obtain ⟨_, o', k1, k2⟩ := hr.obj l1 h2
    cases k2
    have hg := run_getObj (P := b.P) k1 (by intro _ _ _ hh; cases hh)
    refine ef_same hr (v' := .tuple #[.bool false]) ?_ (V.tuple_mk (.cons (.bool _) .nil))
    simp [execOp, ho, Instr.next, q, hg]
  · rename_i m since seen last h2
    have q := hl3 h2
    obtain ⟨M, seen', n1, n2, n3, n4⟩ := hr.iter l1 h2
    split
    · rename_i clock h3
      obtain ⟨es', m1, m2, m3⟩ := hr.map n1 h3
      have hes : es' = #[] := by
        generalize hl : es'.toList = l at m1
        cases m1
        apply Array.toList_inj.1; simpa using hl
      subst hes
      refine ef_same hr (v' := .tuple #[.bool false]) ?_ (V.tuple_mk (.cons (.bool _) .nil))
      simp [execOp, ho, Instr.next, q, n4, m3, Question.forced]
    · rename_i en clock h3
      obtain ⟨es', m1, m2, m3⟩ := hr.map n1 h3
      obtain ⟨en', hes, hen⟩ : ∃ en', es' = #[en'] ∧ MR ρ en en' := by
        generalize hl : es'.toList = l at m1
        cases m1 with
        | cons h t =>
          cases t
          exact ⟨_, arr1 hl, h⟩
      subst hes
      split
      · rename_i c1
        have hb : en.born < since := blt_t c1
        have hseen : seen' = #[] := by apply Array.toList_inj.1; simpa using n2
        subst hseen
        have hr2 := hr.putObj (o2 := .mapIter (some m) since [en.born] clock) (o2' := .mapIter (some M.b) since #[en.born] clock) l1 h2 (.iter _ _ n1 rfl)
        have hsO := run_setObj (P := b.P) n3 (by intro _ _ _ hh; cases hh) (.mapIter (some M.b) since #[en.born] clock)
        refine ⟨ρ, _, .tuple #[.bool true, en'.key, en'.val], ExtN.refl _ _, hr2, ?_, V.tuple_mk (.cons (.bool _) (.cons hen.k (.cons hen.v .nil))), Nat.le_refl _⟩
        have hnb : ¬ since ≤ en.born := by omega
        simp [execOp, ho, Instr.next, q, n4, m3, Question.forced, hen.b, hb, hnb, hsO]
      · rename_i s c2
        have hb : en.born < last := blt_t c2
        split
        · rename_i hs
          have hs' : s = en.born := by simpa using hs
          have hseen : seen' = #[s] := by apply Array.toList_inj.1; simpa using n2
          subst hseen
          refine ef_same hr (v' := .tuple #[.bool false]) ?_ (V.tuple_mk (.cons (.bool _) .nil))
          have hnb : ¬ last ≤ en.born := by omega
          simp [execOp, ho, Instr.next, q, n4, m3, Question.forced, hen.b, hnb, hs']
        · trivial
      · trivial
    · trivial
  · trivial
theorem ef_panic_ok {x : Operand} (ho : o.op = .panic x) : EfOK b o (ef_panic x) := by
  intro w0 ρ h w f e hr he
  have hx := he x (by simp [ho, Op.operands])
  unfold ef_panic
  split
  · rename_i t v h1
    rw [h1] at hx
    obtain ⟨u, e1, e2⟩ := hx.iface_inv
    exact ⟨rfl, .iface t u, by simp [execOp, ho, Instr.panic, e1], .iface t e2⟩
  · trivial
theorem ef_defer_ok {c : Call} (ho : o.op = .defer c) : EfOK b o (ef_deferOp c) := by
  intro w0 ρ h w f e hr he
  unfold ef_deferOp
  split
  · trivial
  · split
    · rename_i x hc
      have hx := he x (by simp [ho, Op.operands, Call.operands, hc])
      have hargs := VL.args (ρ := ρ) (f := f) (e := e) (a := c.args) fun x hx => he x (by simp [ho, Op.operands, Call.operands, hc] at hx ⊢; exact .inr hx)
      split
      · rename_i g a cp h1
        rw [h1] at hx
        obtain ⟨a', c', e1, e2, e3⟩ := hx.func_inv
        refine ⟨rfl, { target := .fn (.func g) c', args := a' ++ c.args.map e }, ?_, ⟨.fn g e3, by simpa using e2.append hargs⟩⟩
        simp [execOp, ho, resolve, hc, e1, Deferred.ofValue]
      · trivial
    · trivial
end
end Go.Ev
end

section
set_option linter.unusedVariables false
set_option linter.unusedSimpArgs false
namespace Go.Ev
open Go Go.RowKit
section
variable {ρ : Rho} {b : Tb} {o : Oper}
theorem run_loadBytesI {P : Program} (w : World) : ∀ (xs : List Int) (a : Addr) (acc : ByteArray), (∀ j x, xs[j]? = some x → w.cell? (a.add j) = some (.int .u8 x)) →
    (loadBytes a acc xs.length).run P w = .ok ⟨acc.data ++ (xs.map fun n => UInt8.ofNat n.toNat).toArray⟩ w
  | [], a, acc, _ => by simp [loadBytes]
  | x :: l, a, acc, h => by
    have h0 : w.cell? a = some (.int .u8 x) := by
      have := h 0 x rfl
      simpa [Addr.add] using this
    have ih := run_loadBytesI (P := P) w l (a.add 1) (acc.push x.toNat.toUInt8) (fun j y hy => by
      have := h (j + 1) y (by simpa using hy)
      have e : (a.add 1).add j = a.add (j + 1) := by
        unfold Addr.add
        by_cases hj : j = 0
        · subst hj; simp
        · simp [hj]; omega
      rw [e]; exact this)
    simp only [List.length_cons, loadBytes, Sem.run_bind, run_load, h0, Result.andThen]
    rw [ih]
    congr 1
    apply ByteArray.ext
    simp [ByteArray.push]
theorem liesAt_off {P : Program} {e : TypeId} (hc : P.cellsOf e = 1) (count off n : Nat) (hn : off + n ≤ count) : liesAt P P.depth e count off e n = true := by
  have hd : P.depth = (2 * (P.types.size + Made.depth) + 1) + 1 := rfl
  rw [hd]
  simp only [liesAt, Bool.or_eq_true]
  left
  rw [hd]
  have : off % 1 = 0 := Nat.mod_one off
  simp [Go.rowAt, hc, hn, sameLayout]
  exact .inl this
theorem ef_unsafeString_ok (B : TbOk b) {c : Call} (ho : o.op = .call c) (hc : c.callee = .builtin .unsafeString) : EfOK b o (ef_unsafeString c.args.toList c.argTypes.toList) := by
  intro w0 ρ h w f e hr he
  unfold ef_unsafeString
  split
  case h_2 => trivial
  rename_i p n pt it ha ht
  have ha' := args2 ha
  have ht' := args2 ht
  have hp := he p (by simp [ho, Op.operands, Call.operands, hc, ha'])
  have hn := he n (by simp [ho, Op.operands, Call.operands, hc, ha'])
  have run : ∀ v' w', (Builtin.unsafeString_ #[pt, it] o.type #[e p, e n]).run b.P w = .ok v' w' → (execOp e o).run b.P w = .ok (.value v') w' := by
    intro v' w' hv
    simp only [execOp, ho, resolve, hc, invoke, builtin, ha', ht']
    simp [hv]
  split
  · rename_i k h1 h2
    rw [h1] at hp; rw [h2] at hn
    refine ef_same hr (v' := .string .empty) (run _ _ ?_) (.string _)
    rw [hp.ptr0_inv, hn.int_inv]
    have hdef : Builtin.unsafeString_ #[pt, it] o.type #[.pointer none, .int k 0] =
        (do
          let n ← asInt (.int k 0)
          if n < 0 then runtimePanic (.error "unsafe.String: len out of range")
          if n > IntKind.i64.max then unsupported (.unsafePointer "String: a length above the largest int")
          if n = 0 then pure (.string .empty)
          else runtimePanic (.error "unsafe.String: ptr is nil and len is not zero")) := rfl
    have hmax : IntKind.i64.max = 9223372036854775807 := rfl
    rw [hdef]
    simp [asInt, asIntOf, hmax]
  · rename_i a k m h1 h2
    rw [h1] at hp; rw [h2] at hn
    obtain ⟨L, l1, l2, l3⟩ := hp.ptr_inv
    split
    case h_2 => trivial
    rename_i el _ _ _ _ _ r c1 c2 h3 h4
    have hd := (B.ty _ _ h3).d
    split
    case h_2 => trivial
    rename_i _ _ _ _ l h5 c3 h6
    have T := B.ty _ _ h5
    split
    case h_2 => trivial
    rename_i bs hbs
    cases hsp : r.sp with
    | true => rw [hsp] at hbs; cases hbs
    | false =>
      rw [hsp] at hbs
      simp only at hbs
      obtain ⟨ns, n1, n2⟩ := bytesOf_eq hbs
      have d1 : 0 < m := by simpa using c1
      have d2 : m ≤ 4294967296 := by simpa using c2
      have d3 : r.e = el := by simpa using c3
      have hcA : cellsAt h a m.toNat = some l := by simp [cellsAt, h4, h6]
      obtain ⟨l', q1, q2, q3, q4, q5⟩ := hr.loadCells b.P l1 hcA
      rw [n1] at q1
      have hl' := q1.ints
      have hlen : ns.length = m.toNat := by rw [← q2, n1]; simp
      have hlb := run_loadBytesI (P := b.P) w ns ⟨L.b, L.d + a.off, none⟩ .empty (fun j x hj => q5 j _ (by rw [hl']; simp [hj]))
      rw [hlen] at hlb
      have hsh := hr.shape l1 h4
      obtain ⟨inf, z, k1, k2, k3, _⟩ := T.inf
      have hc1 : b.P.cellsOf el = 1 := by simp [Program.cellsOf, k1, k2]
      have hrl := (hr.row l1 (rowAt_get h4)).len
      have htk : a.off + m.toNat ≤ r.c.length := by
        rw [ldrop_eq] at h6
        have := (ltake_eq _ _ h6).1
        simp at this
        omega
      have hfit : L.d + a.off + m.toNat ≤ L.E := by
        rcases hrl with hh | hh
        · rw [hh, List.length_nil] at htk; omega
        · omega
      have hlies := liesAt_off (P := b.P) hc1 (L.E / b.P.cellsOf el) (L.d + a.off) m.toNat (by rw [hc1]; simpa using hfit)
      have hva : (variablesAt ⟨L.b, L.d + a.off, none⟩ el m.toNat).run b.P w = .ok true w := by
        simp only [variablesAt, Sem.run_bind, run_program, run_shape, hsh, Result.andThen_ok, Sem.run_pure, d3]
        rw [hlies]
      have hr2 := hr.freeze (a := ⟨L.b, L.d + a.off, none⟩) (n := m.toNat) l1 (rowAt_get h4) hsp rfl
      refine ⟨ρ, _, .string ⟨bs.toArray⟩, ExtN.refl _ _, hr2, run _ _ ?_, .string _, Nat.le_refl _⟩
      rw [l3, hn.int_inv]
      have hdef : Builtin.unsafeString_ #[pt, it] o.type #[.pointer (some ⟨L.b, L.d + a.off, none⟩), .int k m] =
          (do
            let n ← asInt (.int k m)
            if n < 0 then runtimePanic (.error "unsafe.String: len out of range")
            if n > IntKind.i64.max then unsupported (.unsafePointer "String: a length above the largest int")
            if n = 0 then pure (.string .empty)
            else if ← variablesAt ⟨L.b, L.d + a.off, none⟩ (← elemOf pt) n.toNat then do
              let s ← loadBytes ⟨L.b, L.d + a.off, none⟩ .empty n.toNat
              freeze ⟨L.b, L.d + a.off, none⟩ n.toNat
              pure (.string s)
            else unsupported (.unsafePointer "String: not so many bytes at ptr")) := rfl
      rw [hdef]
      have hmax : IntKind.i64.max = 9223372036854775807 := rfl
      have e1 : ¬ m < 0 := by omega
      have e2 : ¬ 9223372036854775807 < m := by omega
      have e3 : ¬ m = 0 := by omega
      simp [asInt, asIntOf, hmax, e1, e2, e3, elemOf, run_underlying hd, hva, hlb, n2]
  · trivial
theorem freeze_alloc (w : World) (C : Array Value) (e : TypeId) (k : Nat) : (w.alloc (.cells C e)).freeze ⟨w.heap.size, k, none⟩ 1 = w.alloc (.cells C e (k, k + 1)) := by
  unfold World.freeze
  rw [if_neg (by omega)]
  show ({ w with heap := (w.heap.push (.cells C e)).modify w.heap.size _ } : World) = { w with heap := w.heap.push (.cells C e (k, k + 1)) }
  congr 1
  apply Array.ext
  · simp
  · intro i h1 h2
    simp only [Array.getElem_modify, Array.getElem_push]
    have hi : i < w.heap.size + 1 := by simpa using h2
    by_cases h : i < w.heap.size
    · simp [h, Nat.ne_of_gt h]
    · have : i = w.heap.size := by omega
      subst this
      simp
theorem ef_bytes_ok (B : TbOk b) {s d : TypeId} {x : Operand} (ho : o.op = .convert s d x) : EfOK b o (ef_bytes s d x) := by
  intro w0 ρ h w f e hr he
  have hx := he x (by simp [ho, Op.operands])
  unfold ef_bytes
  split
  case h_2 => trivial
  rename_i si el _ _ _ _ _ str h1 h2 h3
  rw [h3] at hx
  have hs := (B.ty _ _ h1).d
  have hd := (B.ty _ _ h2).d
  split
  case h_2 => trivial
  rename_i _ _ _ _ _ h4
  have hel := (B.ty _ _ h4).d
  simp only
  split
  case h_2 => trivial
  rename_i hle
  have hle' := Nat.le_of_ble_eq_true hle
  have hq : (Question.appendCap str.size 0 el).forced = false := rfl
  have hge : str.size ≤ grownCap w str.size 0 el := grownCap_ge w str.size 0 el
  generalize hG : grownCap w str.size 0 el = G at hge
  have hlen : (str.data.toList.map fun b => Value.int .u8 b.toNat).length = str.size := by rw [List.length_map, ← bsize]
  generalize hl : (str.data.toList.map fun b => Value.int .u8 b.toNat) = l at hlen hle'
  have vl : VL ρ l l := by rw [← hl]; exact VL.strCells _
  have okl : allOk l = true := by rw [← hl]; exact allOk_str _
  generalize hCd : ((str.data.map fun b => Value.int .u8 b.toNat) ++ Array.replicate (G - str.size) (.int .u8 0)) = C
  have hCl : C.toList = l ++ List.replicate (G - str.size) (.int .u8 0) := by rw [← hCd, ← hl]; simp
  have hCs : C.size = G := by
    have : C.toList.length = G := by rw [hCl, List.length_append, hlen, List.length_replicate]; omega
    simpa using this
  have hr2 : HR w0 ρ h w.drew := hr.congr rfl rfl rfl rfl
  have hr3 := hr2.newRow (el := el) (st := 1) (l := l) (l' := l) C G (by simp) (.inr (by rw [hlen, hCs]; exact hge)) (by rw [hCl]; simp) vl okl (by rw [hlen, hCs]; exact hge) (C.size, C.size + 1) (fun j hj hh => by simp at hh; omega)
  have hρ : ρ h.next = none := hr.fresh (Nat.le_refl _)
  refine ⟨_, _, .slice (some ⟨w.heap.size, 0, none⟩) str.size G, upd_extN hρ (Nat.le_refl _), hr3, ?_, ?_, Nat.le_succ _⟩
  · have hC' : (str.data.map fun b => Value.int .u8 b.toNat) ++ Array.replicate (G - str.size) (.int .u8 0) = C := hCd
    have run : (Conv.stringToBytes el str).run b.P w = .ok (.slice (some ⟨w.heap.size, 0, none⟩) str.size G) (w.drew.alloc (.cells C el (C.size, C.size + 1))) := by
      unfold Conv.stringToBytes
      simp only [Sem.run_bind, run_choose, hq, Bool.false_eq_true, if_false, Result.andThen_ok]
      have hG' : (Question.appendCap str.size 0 el).cut (w.tape w.drawn (.appendCap str.size 0 el)) = G := hG
      rw [hG', hC']
      simp only [newRow, Sem.run_bind, run_newObj, Result.andThen_ok, Sem.run_pure, markStringish, run_shape]
      have hsh : (w.drew.alloc (.cells C el)).shape? w.drew.heap.size = some (el, C.size) := by
        simp only [World.shape?, alloc_new]
      have hw : ({ w.drew with heap := w.drew.heap.push (.cells C el) } : World) = w.drew.alloc (.cells C el) := rfl
      have hw2 : ({ heap := w.heap.push (.cells C el), tape := w.tape, drawn := w.drawn + 1, os := w.os, output := w.output } : World) = w.drew.alloc (.cells C el) := rfl
      rw [hw2]
      have hs2 : (w.drew.alloc (.cells C el)).shape? w.heap.size = some (el, C.size) := hsh
      rw [hs2]
      simp only [run_freeze, Result.andThen_ok]
      rw [show (⟨w.heap.size, C.size, none⟩ : Addr) = ⟨w.drew.heap.size, C.size, none⟩ from rfl, freeze_alloc]
    have hcv : (convert s d (.string str)).run b.P w = (Conv.stringToBytes el str).run b.P w := by
      simp [convert, run_underlying hs, run_underlying hd, run_underlying hel]
    simp only [execOp, ho, hx.string_inv, Sem.run_bind, hcv, run, Result.andThen_ok, Sem.run_pure]
  · rw [hlen]
    refine .sliceU (L := ⟨w.drew.heap.size, 0, 1, C.size⟩) (upd_same _ _ _) rfl (by unfold UNK; omega) (by omega) (by omega) (.inr ⟨by simp, ?_⟩)
    show 0 + 0 + G * 1 ≤ C.size
    rw [hCs]; omega
/-- Every operation with an effect. -/
theorem eff_ok (B : TbOk b) {ef : EfR} (hc : clsOf b o.op = .eff ef) : EfOK b o ef := by
  have bad : EfOK b o (fun b f o h => .bad) := fun w0 ρ h w f e hr he => trivial
  cases ho : o.op <;> rw [ho] at hc <;> simp only [clsOf] at hc
  case assign x => cases hc; exact ef_assign_ok ho
  case insert t m k x => cases hc; exact ef_update_ok B (.inr ho)
  case store t a x => cases hc; exact ef_store_ok B ho
  case makeMap t r => cases hc; exact ef_makeMap_ok B ho
  case mapUpdate t m k x => cases hc; exact ef_update_ok B (.inl ho)
  case mapEntry t m k => cases hc; exact ef_mapEntry_ok B ho
  case entryStore t m s x => cases hc; exact ef_entryStore_ok B ho
  case range t x => cases hc; exact ef_range_ok B ho
  case next it s => cases hc; exact ef_next_ok B ho
  case panic x => cases hc; exact ef_panic_ok ho
  case defer c => cases hc; exact ef_defer_ok ho
  case convert s d x =>
    unfold cls_convert at hc
    split at hc
    · cases hc; exact ef_bytes_ok B ho
    · cases hc
  case call c =>
    unfold cls_call at hc
    split at hc
    · rename_i bi hb
      unfold cls_builtin at hc
      split at hc
      all_goals first | (cases hc; done) | skip
      · cases hc; exact ef_append_ok B ho hb
      · cases hc; exact ef_copy_ok B ho hb
      · cases hc; exact ef_clear_ok B ho hb
      · cases hc; exact ef_delete_ok B ho hb
      · cases hc; exact ef_unsafeString_ok B ho hb
      · cases hc
        intro w0 ρ h w f e hr he
        exact ⟨rfl, by simp [execOp, ho, resolve, hb, invoke, builtin]⟩
      · cases hc; exact bad
    · rename_i x hb
      unfold cls_value at hc
      split at hc
      · cases hc; exact ef_fn_ok B ho hb
      · cases hc; exact ef_callv_ok B ho hb
    · rename_i x m hb
      cases hc; exact ef_invoke_ok B ho hb
  all_goals first | (cases hc; done) | (simp only [cls_bad] at hc; cases hc; exact bad)
end
end Go.Ev
end
