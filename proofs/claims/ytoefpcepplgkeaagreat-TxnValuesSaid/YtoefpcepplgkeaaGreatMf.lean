/- Regions that draw: what floats may lag behind. Regions that draw: the machine behind the abstract one. Runs: what the abstract machine finds is what a call gives. -/
import Derived.Test.YtoefpcepplgkeaaGreatMe
section
set_option linter.unusedVariables false
set_option linter.unusedSimpArgs false
namespace Go.Ev
open Go Go.RowKit
/-! ### Ancestors -/
theorem nth_none : ∀ {l : List Nat} {i : Nat}, l.length ≤ i → nth l i = 0
  | [], _, _ => rfl
  | _ :: r, 0, h => by simp at h
  | _ :: r, i + 1, h => by simp only [nth]; exact nth_none (by simpa using h)
theorem nth_lt : ∀ {l m : List Nat} {i : Nat}, i < l.length → nth (l ++ m) i = nth l i
  | [], _, _, h => by simp at h
  | _ :: r, m, 0, h => rfl
  | _ :: r, m, i + 1, h => by
    show nth (r ++ m) i = nth r i
    exact nth_lt (by simpa using h)
theorem nth_end : ∀ {l : List Nat} {m : Nat}, nth (l ++ [m]) l.length = m
  | [], _ => rfl
  | _ :: r, m => by
    show nth (r ++ [m]) r.length = m
    exact nth_end
theorem maskOf_bit {acc : List Nat} : ∀ {l : List Edge} {m j : Nat}, (maskOf acc l m).testBit j = true → m.testBit j = true ∨ ∃ e ∈ l, Region.binds .any e = true ∧ (e.on = j ∨ (nth acc e.on).testBit j = true)
  | [], m, j, h => .inl h
  | e :: r, m, j, h => by
    simp only [maskOf] at h
    split at h
    · rcases maskOf_bit h with h | ⟨x, h1, h2⟩
      · exact .inl h
      · exact .inr ⟨x, by simp [h1], h2⟩
    · rename_i hb
      rcases maskOf_bit h with h | ⟨x, h1, h2⟩
      · simp only [Nat.testBit_or, Bool.or_eq_true] at h
        rcases h with (h | h) | h
        · exact .inl h
        · rw [Nat.testBit_two_pow] at h
          exact .inr ⟨e, by simp, hb, .inl (by simpa using h)⟩
        · exact .inr ⟨e, by simp, hb, .inr h⟩
      · exact .inr ⟨x, by simp [h1], h2⟩
theorem ancGo_lt : ∀ {os : List Oper} {acc : List Nat} {i : Nat}, i < acc.length → nth (ancGo os acc) i = nth acc i
  | [], _, _, _ => rfl
  | o :: r, acc, i, h => by
    simp only [ancGo]
    rw [ancGo_lt (by simp; omega), nth_lt h]
theorem anc_spec : ∀ {os : List Oper} {acc : List Nat} {k : Nat} {o : Oper}, os[k]? = some o → ∀ j, (nth (ancGo os acc) (acc.length + k)).testBit j = true →
    ∃ e ∈ o.after.toList, Region.binds .any e = true ∧ (e.on = j ∨ (nth (ancGo os acc) e.on).testBit j = true)
  | [], _, _, _, h, _, _ => by simp at h
  | p :: r, acc, 0, o, h, j, hb => by
    simp at h; subst h
    simp only [ancGo, Nat.add_zero] at hb ⊢
    rw [ancGo_lt (by simp), nth_end] at hb
    rcases maskOf_bit hb with h | ⟨e, h1, h2, h3⟩
    · simp at h
    · refine ⟨e, h1, h2, ?_⟩
      rcases h3 with h3 | h3
      · exact .inl h3
      · right
        by_cases hlt : e.on < acc.length
        · rw [ancGo_lt (by simp; omega), nth_lt hlt]; exact h3
        · rw [nth_none (by omega)] at h3; simp at h3
  | p :: r, acc, k + 1, o, h, j, hb => by
    simp only [ancGo] at hb ⊢
    refine anc_spec (acc := acc ++ [maskOf acc p.after.toList 0]) (k := k) (by simpa using h) j ?_
    rw [show (acc ++ [maskOf acc p.after.toList 0]).length + k = acc.length + (k + 1) by simp; omega]
    exact hb
theorem anc_out {b : Tb} {ops : Array Oper} {rest : List Nat} (hreg : regOk b ops = true) (clo : ∀ i o, ops[i]? = some o → i ∉ rest → ∀ e ∈ o.after.toList, Region.binds .any e = true → e.on ∉ rest) :
    ∀ (n i : Nat) (o : Oper), i < n → ops[i]? = some o → (∀ e ∈ o.after.toList, Region.binds .any e = true → e.on ∉ rest) → ∀ j, (nth (ancs ops) i).testBit j = true → j ∉ rest
  | 0, _, _, h, _, _, _, _ => by omega
  | n + 1, i, o, hi, ho, he, j, hb => by
    have h1 := anc_spec (os := ops.toList) (acc := []) (k := i) (o := o) (by simpa using ho) j (by simpa [ancs] using hb)
    obtain ⟨e, h1, h2, h3⟩ := h1
    have hlt := reg_edges hreg ho e h1 h2
    have hout := he e h1 h2
    rcases h3 with h3 | h3
    · rw [← h3]; exact hout
    · have hs : i < ops.size := (Array.getElem?_eq_some_iff.1 ho).1
      have hx : ops[e.on]? = some ops[e.on] := by simp [show e.on < ops.size by omega]
      exact anc_out hreg clo n e.on _ (by omega) hx (clo _ _ hx hout) j h3
/-! ### What an operation looks at -/
theorem memN_of {d : Nat} : ∀ {l : List Nat}, d ∈ l → memN d l = true
  | [], h => by simp at h
  | x :: r, h => by
    simp only [memN]
    split
    · rfl
    · rename_i hh
      rcases List.mem_cons.1 h with rfl | h
      · simp at hh
      · exact memN_of h
theorem okNames_mem {m : Nat} {ns : List Tmp} : ∀ {ws : List (Nat × Tmp)}, okNames m ns ws = true → ∀ j d, (j, d) ∈ ws → d ∈ ns → m.testBit j = true
  | [], _, _, _, h, _ => by simp at h
  | (x, y) :: r, hk, j, d, h, hd => by
    simp only [okNames] at hk
    split at hk
    · cases hk
    · rename_i hh
      rcases List.mem_cons.1 h with h | h
      · have e1 : j = x := (Prod.mk.inj h).1
        have e2 : d = y := (Prod.mk.inj h).2
        subst e1 e2
        cases hq : m.testBit j with
        | true => rfl
        | false => exact (hh (memN_of hd) hq).elim
      · exact okNames_mem hk j d h hd
theorem tmpsIn_mem {t : Tmp} : ∀ {l : List Operand}, Operand.tmp t ∈ l → t ∈ tmpsIn l
  | [], h => by simp at h
  | x :: r, h => by
    rcases List.mem_cons.1 h with rfl | h
    · simp [tmpsIn]
    · have := tmpsIn_mem h
      cases x <;> simp [tmpsIn, this]
theorem names_op {ops : Array Oper} {o : Oper} {t : Tmp} (h : Operand.tmp t ∈ o.op.operands.toList) : t ∈ names ops o := by
  have := tmpsIn_mem h
  unfold names
  split
  · exact this
  · split
    · split
      · exact List.mem_cons_of_mem _ this
      · exact this
    · exact this
theorem names_guard {ops : Array Oper} {o : Oper} {j : Nat} {w : Bool} {oj : Oper} {d : Tmp} (h : o.guard = some (j, w)) (hj : ops[j]? = some oj) (hd : oj.dst = some d) : d ∈ names ops o := by
  unfold names
  simp [h, hj, hd]
section
variable {b : Tb} {ρ : Rho} {w0 : World} {base : List Frame}
/-- What an operation looks at does not lag when its edges are done. -/
theorem names_free {lo hi : Nat} {f : AF} {ops : Array Oper} {done : Nat} {lag rest : List Nat} (hd : DG b ρ lo hi f ops done lag rest) {i : Nat} {o : Oper} (hio : ops[i]? = some o) (he : ∀ e ∈ o.after.toList, Region.binds .any e = true → e.on ∉ rest)
    {t : Tmp} (ht : t ∈ names ops o) : ¬ Lg ops done rest t := by
  rintro ⟨j, p, hj, hdj, hp, hpd⟩
  have hw : (0 + j, t) ∈ writes b ops.toList 0 := writes_mem (by simpa using hp) hpd (hd.flt j hj hdj p hp)
  have hk := (regGo_edges (regOk_go hd.reg) i o (by simpa using hio)).2
  rw [Nat.zero_add] at hk hw
  exact anc_out hd.reg hd.clo (i + 1) i o (by omega) hio he j (okNames_mem hk j t hw ht) hj
/-! ### What is ready -/
theorem edgesIn_of {done : Nat} : ∀ {l : List Edge}, (∀ e ∈ l, Region.binds .any e = true → done.testBit e.on = true) → edgesIn done l = true
  | [], _ => rfl
  | e :: r, h => by
    simp only [edgesIn]
    split
    · rename_i h1 h2
      rw [h e (by simp) h1] at h2; cases h2
    · exact edgesIn_of fun x hx => h x (by simp [hx])
theorem readyD_mem {done : Nat} : ∀ {os : List Oper} {j i : Nat} {o : Oper}, (i, o) ∈ readyD done os j → ∃ k, i = j + k ∧ os[k]? = some o ∧ done.testBit i = false
  | [], _, _, _, h => by simp [readyD] at h
  | p :: r, j, i, o, h => by
    have next : (i, o) ∈ readyD done r (j + 1) → ∃ k, i = j + k ∧ (p :: r)[k]? = some o ∧ done.testBit i = false := fun h => by
      obtain ⟨k, h1, h2, h3⟩ := readyD_mem h
      exact ⟨k + 1, by omega, by simpa using h2, h3⟩
    simp only [readyD] at h
    split at h
    · exact next h
    · rename_i hq
      split at h
      · rcases List.mem_cons.1 h with h | h
        · cases h; exact ⟨0, rfl, rfl, hq⟩
        · exact next h
      · exact next h
theorem readyD_of {done : Nat} : ∀ {os : List Oper} {j k : Nat} {o : Oper}, os[k]? = some o → done.testBit (j + k) = false → edgesIn done o.after.toList = true → (j + k, o) ∈ readyD done os j
  | [], _, _, _, h, _, _ => by simp at h
  | p :: r, j, 0, o, h, hd, he => by
    simp at h; subst h
    simp only [readyD]
    rw [Nat.add_zero] at hd ⊢
    simp [hd, he]
  | p :: r, j, k + 1, o, h, hd, he => by
    have := readyD_of (j := j + 1) (k := k) (by simpa using h) (by rw [← hd]; congr 1; omega) he
    rw [show j + 1 + k = j + (k + 1) by omega] at this
    simp only [readyD]
    split
    · exact this
    · split
      · exact List.mem_cons_of_mem _ this
      · exact this
/-! ### Floats -/
structure Alike (f g : AF) : Prop where
  id : f.id = g.id
  nt : f.nt = g.nt
  res : f.res = g.res
  defers : f.defers = g.defers
  mode : f.mode = g.mode
  kind : f.kind = g.kind
  round : f.round = g.round
  gl : f.gl = g.gl
theorem Alike.put {f g : AF} (h : Alike f g) (d : Option Tmp) (v : Value) : Alike (f.put d v) g := by
  obtain ⟨p1, p2, p3, p4, p5, p6, p7, p8, p9⟩ := put_tmps f d v
  exact ⟨p1.trans h.id, p2.trans h.nt, p3.trans h.res, p4.trans h.defers, p5.trans h.mode, p6.trans h.kind, p7.trans h.round, p8.trans h.gl⟩
theorem FR.alike {lo hi : Nat} {f g : AF} {fr : Frame} (h : FR b ρ lo hi g fr) (e : Alike f g) (t : TD b ρ lo hi f fr) : FR b ρ lo hi f fr := by
  refine ⟨?_, ?_, ?_, ?_, ?_, ?_, ?_, ?_, ?_, t⟩
  · rw [e.id]; exact h.fn
  · rw [e.kind]; exact h.kind
  · rw [e.kind]; exact h.kd
  · rw [e.defers]; exact h.dfs
  · rw [e.mode]; exact h.mode
  · rw [e.round]; exact h.round
  · rw [e.nt]; exact h.size
  · rw [e.gl]; exact h.gl
  · rw [e.round, e.id, e.res]; exact h.res
theorem floatOp_inv {f : AF} {ops : Array Oper} {o : Oper} {h h' : H} {v : Value} (hf : floatOp b f ops o h = .ok v h') :
    isFloat b o = true ∧ ((h' = h ∧ (isLay b o → blkOf v = none)) ∨ ∃ c e, h' = h.push (.row (layRow c e)) ∧ ∀ r, blkOf v = some r → r = h.next) := by
  unfold floatOp at hf
  unfold isFloat isLay
  split at hf
  · rename_i p hc
    refine ⟨by rw [hc], .inl ?_⟩
    split at hf
    · cases hf
    · cases hf; exact ⟨rfl, fun ⟨l, hl⟩ => by rw [hc] at hl; cases hl⟩
    · split at hf
      · cases hf; exact ⟨rfl, fun ⟨l, hl⟩ => by rw [hc] at hl; cases hl⟩
      · cases hf
  · rename_i l hc
    refine ⟨by rw [hc], ?_⟩
    split at hf
    · cases hf
    · cases hf; exact .inl ⟨rfl, fun _ => rfl⟩
    · split at hf
      · rename_i c e k hl
        cases hf
        refine .inr ⟨c, e, rfl, fun r hr => ?_⟩
        cases k with
        | none => simp [laid, blkOf] at hr; exact hr.symm
        | some nm => obtain ⟨n, m⟩ := nm; simp [laid, blkOf] at hr; exact hr.symm
      · cases hf
  · cases hf
theorem bit_or {d i j : Nat} : (d ||| 2 ^ i).testBit j = true ↔ d.testBit j = true ∨ i = j := by
  rw [Nat.testBit_or, Nat.testBit_two_pow, Bool.or_eq_true]; simp
theorem float_ok {lo : Nat} {f : AF} {fr : Frame} {w : World} {h h' : H} {ops : Array Oper} {done : Nat} {lag rest : List Nat} {i : Nat} {o : Oper} {v : Value} (hr : HR w0 ρ h w) (hl : lo ≤ h.next) (hio : ops[i]? = some o) (hnd : done.testBit i = false)
    (hd : DG b ρ lo h.next f ops done lag rest) (t : TM ρ (Lg ops done rest) f fr) (hf : floatOp b f ops o h = .ok v h') :
    HR w0 ρ h' w ∧ h.next ≤ h'.next ∧ DG b ρ lo h'.next (f.put o.dst v) ops (done ||| 2 ^ i) (i :: lag) rest ∧ TM ρ (Lg ops (done ||| 2 ^ i) rest) (f.put o.dst v) fr := by
  obtain ⟨f1, f2⟩ := floatOp_inv hf
  have hi : i < ops.size := (Array.getElem?_eq_some_iff.1 hio).1
  have hir : i ∈ rest := hd.todo i hi hnd
  have hn : h.next ≤ h'.next := by
    rcases f2 with ⟨e, _⟩ | ⟨c, e, e1, _⟩
    · rw [e]; exact Nat.le_refl _
    · rw [e1, H.next_push]; omega
  have hr' : HR w0 ρ h' w := by
    rcases f2 with ⟨e, _⟩ | ⟨c, e, e1, _⟩
    · rw [e]; exact hr
    · rw [e1]; exact hr.push _ (fun y hy => by cases hy; rfl)
  obtain ⟨p1, p2, p3, p4, p5, p6, p7, p8, p9⟩ := put_tmps f o.dst v
  -- what lags already is not written
  have same : ∀ j ∈ rest, done.testBit j = true → ∀ p, ops[j]? = some p → ∀ d, p.dst = some d → (f.put o.dst v).tmp d = f.tmp d := by
    intro j hj hdj p hp d hdd
    have : ¬ (o.dst = some d ∧ d < f.nt) := by
      rintro ⟨h3, _⟩
      have := reg_alone hd.reg hp hdd (hd.flt j hj hdj p hp) hio h3
      subst this; rw [hdj] at hnd; cases hnd
    simp only [AF.tmp, put_get, if_neg this]
  have mine : ∀ d, o.dst = some d → d < f.nt → (f.put o.dst v).tmp d = v := by
    intro d h1 h2
    simp only [AF.tmp, put_get, h1, true_and, h2, if_true]
  have lay : isLay b o → ∀ r, blkOf v = some r → r = h.next ∧ h.next < h'.next := by
    intro hlay r hr
    rcases f2 with ⟨_, e⟩ | ⟨c, e, e1, e2⟩
    · rw [e hlay] at hr; cases hr
    · exact ⟨e2 r hr, by rw [e1, H.next_push]; omega⟩
  refine ⟨hr', hn, ⟨hd.reg, hd.ord, fun j hj hb => hd.todo j hj ?_, fun j hj hb => ?_, fun j hj hb p hp => ?_, fun j hj hb p hp hlp d hdd hdn r hrr => ?_, fun j hj hb k hk hbk hjk p q hp hq hlp hlq d e hdd hde hdn hen r hrj hrk => ?_, hd.clo⟩, fun x y hx hy => ?_⟩
  · rw [Nat.testBit_or, Bool.or_eq_false_iff] at hb; exact hb.1
  · rcases bit_or.1 hb with hb | hb
    · exact List.mem_cons_of_mem _ (hd.lagm j hj hb)
    · rw [hb]; simp
  · rcases bit_or.1 hb with hb | hb
    · exact hd.flt j hj hb p hp
    · subst hb; rw [hio] at hp; cases hp; exact f1
  · rcases bit_or.1 hb with hb | hb
    · rw [same j hj hb p hp d hdd] at hrr
      obtain ⟨a1, a2, a3⟩ := hd.unb j hj hb p hp hlp d hdd (by rw [← p2]; exact hdn) r hrr
      exact ⟨a1, by omega, a3⟩
    · subst hb; rw [hio] at hp; cases hp
      rw [mine d hdd (by rw [← p2]; exact hdn)] at hrr
      obtain ⟨a1, a2⟩ := lay hlp r hrr
      subst a1
      exact ⟨hl, a2, hr.fresh (Nat.le_refl _)⟩
  · rw [p2] at hdn hen
    rcases bit_or.1 hb with hb | hb
    · rw [same j hj hb p hp d hdd] at hrj
      rcases bit_or.1 hbk with hbk | hbk
      · rw [same k hk hbk q hq e hde] at hrk
        exact hd.dis j hj hb k hk hbk hjk p q hp hq hlp hlq d e hdd hde hdn hen r hrj hrk
      · subst hbk; rw [hio] at hq; cases hq
        rw [mine e hde hen] at hrk
        have a1 := (lay hlq r hrk).1
        have a2 := (hd.unb j hj hb p hp hlp d hdd hdn r hrj).2.1
        omega
    · subst hb; rw [hio] at hp; cases hp
      rw [mine d hdd hdn] at hrj
      have a1 := (lay hlp r hrj).1
      rcases bit_or.1 hbk with hbk | hbk
      · rw [same k hk hbk q hq e hde] at hrk
        have a2 := (hd.unb k hk hbk q hq hlq e hde hen r hrk).2.1
        omega
      · exact hjk hbk
  · have hxi : ¬ (o.dst = some x) := fun hh => hx ⟨i, o, hir, bit_or.2 (.inr rfl), hio, hh⟩
    rw [put_get, if_neg (fun hh => hxi hh.1)] at hy
    exact t x y (fun ⟨j, p, h1, h2, h3, h4⟩ => hx ⟨j, p, h1, bit_or.2 (.inl h2), h3, h4⟩) hy
theorem oneFloat_mem {ops : Array Oper} {s s' : DS} : ∀ {l : List (Nat × Oper)}, oneFloat b ops s l = some (some s') → ∃ i o v h', (i, o) ∈ l ∧ floatOp b s.f ops o s.h = .ok v h' ∧ s' = ⟨s.f.put o.dst v, h', s.done ||| 2 ^ i, i :: s.lag⟩
  | [], h => by simp [oneFloat] at h
  | (i, o) :: r, h => by
    simp only [oneFloat] at h
    split at h
    · rename_i v h' hf
      cases h; exact ⟨i, o, v, h', by simp, hf, rfl⟩
    · obtain ⟨i, o, v, h', h1, h2⟩ := oneFloat_mem h
      exact ⟨i, o, v, h', by simp [h1], h2⟩
    · cases h
theorem floats_ok {lo : Nat} {g : AF} {fr : Frame} {w : World} {ops : Array Oper} {rest : List Nat} : ∀ {n : Nat} {s d : DS}, HR w0 ρ s.h w → lo ≤ s.h.next → DG b ρ lo s.h.next s.f ops s.done s.lag rest → TM ρ (Lg ops s.done rest) s.f fr → Alike s.f g →
    floats b ops n s = some d → HR w0 ρ d.h w ∧ s.h.next ≤ d.h.next ∧ DG b ρ lo d.h.next d.f ops d.done d.lag rest ∧ TM ρ (Lg ops d.done rest) d.f fr ∧ Alike d.f g
  | 0, s, d, _, _, _, _, _, h => by simp [floats] at h
  | n + 1, s, d, hr, hl, hd, t, al, h => by
    simp only [floats] at h
    split at h
    · cases h; exact ⟨hr, Nat.le_refl _, hd, t, al⟩
    · rename_i s' hone
      obtain ⟨i, o, v, h', h1, h2, h3⟩ := oneFloat_mem hone
      obtain ⟨k, k1, k2, k3⟩ := readyD_mem h1
      have hio : ops[i]? = some o := by rw [k1, Nat.zero_add]; simpa using k2
      obtain ⟨a1, a2, a3, a4⟩ := float_ok hr hl hio k3 hd t h2
      subst h3
      obtain ⟨b1, b2, b3, b4, b5⟩ := floats_ok (n := n) (s := ⟨s.f.put o.dst v, h', s.done ||| 2 ^ i, i :: s.lag⟩) a1 (Nat.le_trans hl a2) a3 a4 (al.put _ _) h
      exact ⟨b1, Nat.le_trans a2 b2, b3, b4, b5⟩
    · cases h
end
end Go.Ev
end

section
set_option linter.unusedVariables false
set_option linter.unusedSimpArgs false
namespace Go.Ev
open Go Go.RowKit
section
variable {b : Tb} {ρ : Rho} {w0 : World} {base : List Frame}
theorem Ord.inv {ops : Array Oper} {i : Nat} {r : List Nat} (h : Ord ops (i :: r)) : ∃ o, ops[i]? = some o ∧ (∀ e ∈ o.after.toList, Region.binds .any e = true → e.on ∉ i :: r) ∧ i ∉ r ∧ Ord ops r := by
  cases h with
  | cons ho he hn t => exact ⟨_, ho, he, hn, t⟩
theorem freshRow_inv {h : H} {c : List Value} {e : TypeId} {k : Option (Nat × Nat)} {v : Value} (hf : freshRow h c e k v = true) : ∃ r, v = laid r k ∧ h.get r = some (.row (layRow c e)) := by
  have row : ∀ {r c' e'}, rowAt h r = some ⟨c', e', 0, 0, none, false⟩ → (Nat.beq e' e && eqL eqV c' c) = true → h.get r = some (.row (layRow c e)) := by
    intro r c' e' hg hq
    simp only [Bool.and_eq_true] at hq
    have h1 : e' = e := by simpa using hq.1
    have h2 : c' = c := eqL_sound (fun a b => eqV_sound) hq.2
    subst h1 h2
    unfold rowAt at hg
    split at hg
    · rename_i x hx; cases hg; exact hx
    · cases hg
  unfold freshRow at hf
  split at hf
  · rename_i a
    split at hf
    · rename_i hq h1 h2
      obtain ⟨ab, ao, asp⟩ := a
      simp only at h1 h2 hf
      subst h1 h2
      exact ⟨ab, rfl, row (by assumption) hf⟩
    · cases hf
  · rename_i a n m
    split at hf
    · rename_i kn kc c' e' hq h1 h2
      split at hf
      · rename_i g1 g2
        obtain ⟨ab, ao, asp⟩ := a
        simp only at h1 h2
        subst h1 h2
        have e1 : n = kn := by simpa using g1
        have e2 : m = kc := by simpa using g2
        subst e1 e2
        exact ⟨ab, rfl, row (by assumption) hf⟩
      · cases hf
    · cases hf
  · cases hf
theorem blk_laid (r : Nat) (k : Option (Nat × Nat)) : blkOf (laid r k) = some r := by
  cases k with
  | none => rfl
  | some nm => obtain ⟨n, m⟩ := nm; rfl
theorem V.laid {L : Loc} {r : Nat} {k : Option (Nat × Nat)} (hl : ρ r = some L) (hd : L.d = 0) (hk : ∀ n m, k = some (n, m) → m < UNK) : V ρ (laid r k) (laid L.b k) := by
  cases k with
  | none => exact .ptr hl rfl (by simp [hd])
  | some nm =>
    obtain ⟨n, m⟩ := nm
    exact .sliceK hl rfl (by simp [hd]) (hk n m rfl)
/-- A lagging operation is done. -/
theorem lag_one (B : TbOk b) {lo : Nat} {f : AF} {h : H} {ops : Array Oper} {done : Nat} {lag : List Nat} {i : Nat} {r : List Nat} {fn : FuncId} {tmps : Array Value} {k' : List Item} {defers : List Deferred} {kind : CallKind} {ro : Option Nat} {cs' : List Frame} {w : World}
    (hr : HR w0 ρ h w) (hg : GlOk b ρ) (hgl : f.gl = b.gl) (hsz : tmps.size = f.nt) (hl : lo ≤ h.next) (hd : DG b ρ lo h.next f ops done lag (i :: r)) (hb : done.testBit i = true)
    (t : TM ρ (Lg ops done (i :: r)) f ⟨fn, tmps, .inRegion ops (i :: r) :: k', defers, .run, kind, ro⟩) (hsame : allSame b f ops h lag = true) :
    ∃ ρ' w' tmps', ExtN ρ ρ' lo ∧ HR w0 ρ' h w' ∧ tmps'.size = f.nt ∧ DG b ρ' lo h.next f ops done lag r ∧ TM ρ' (Lg ops done r) f ⟨fn, tmps', .inRegion ops r :: k', defers, .run, kind, ro⟩ ∧
      Steps b.P (lone ⟨fn, tmps, .inRegion ops (i :: r) :: k', defers, .run, kind, ro⟩ cs' w) (lone ⟨fn, tmps', .inRegion ops r :: k', defers, .run, kind, ro⟩ cs' w') := by
  obtain ⟨o, hio, he, hir, hord⟩ := hd.ord.inv
  -- the rest without it
  have dg : ∀ {ρ' : Rho}, (∀ j ∈ r, done.testBit j = true → ∀ p, ops[j]? = some p → isLay b p → ∀ d, p.dst = some d → d < f.nt → ∀ q, blkOf (f.tmp d) = some q → ρ' q = none) → DG b ρ' lo h.next f ops done lag r := by
    intro ρ' hun
    refine ⟨hd.reg, hord, fun j hj hb2 => ?_, fun j hj hb2 => hd.lagm j (by simp [hj]) hb2, fun j hj hb2 => hd.flt j (by simp [hj]) hb2, fun j hj hb2 p hp hlp d hdd hdn q hq => ?_, fun j hj hbj c hc hbc => hd.dis j (by simp [hj]) hbj c (by simp [hc]) hbc, fun j p hp hj => ?_⟩
    · have := hd.todo j hj hb2
      rcases List.mem_cons.1 this with rfl | h
      · rw [hb] at hb2; cases hb2
      · exact h
    · obtain ⟨a1, a2, a3⟩ := hd.unb j (by simp [hj]) hb2 p hp hlp d hdd hdn q hq
      exact ⟨a1, a2, hun j hj hb2 p hp hlp d hdd hdn q hq⟩
    · by_cases hji : j = i
      · subst hji; rw [hio] at hp; cases hp
        intro e h1 h2 h3; exact he e h1 h2 (by simp [h3])
      · intro e h1 h2 h3
        exact hd.clo j p hp (by simp [hji, hj]) e h1 h2 (by simp [h3])
  have un0 : ∀ j ∈ r, done.testBit j = true → ∀ p, ops[j]? = some p → isLay b p → ∀ d, p.dst = some d → d < f.nt → ∀ q, blkOf (f.tmp d) = some q → ρ q = none := fun j hj hb2 p hp hlp d hdd hdn q hq =>
    (hd.unb j (by simp [hj]) hb2 p hp hlp d hdd hdn q hq).2.2
  -- what it looks at
  have nf : ∀ x ∈ names ops o, ¬ Lg ops done (i :: r) x := fun x hx => names_free hd hio he hx
  have hev : ∀ x ∈ o.op.operands.toList, V ρ (f.eval x) (Frame.eval ⟨fn, tmps, .inRegion ops (i :: r) :: k', defers, .run, kind, ro⟩ x) := fun x hx => t.eval hg hgl (fun y hy => nf y (names_op (by rw [← hy]; exact hx)))
  -- it gives the same
  have hsm : sameNow b f ops h o = true := by
    have hm := hd.lagm i (by simp) hb
    clear dg hd
    induction lag with
    | nil => simp at hm
    | cons j l ih =>
      simp only [allSame] at hsame
      split at hsame
      · cases hsame
      · rename_i p hp
        split at hsame
        · rename_i hs
          rcases List.mem_cons.1 hm with rfl | hm
          · rw [hio] at hp; cases hp; exact hs
          · exact ih hsame hm
        · cases hsame
  have hflt := hd.flt i (by simp) hb o hio
  unfold sameNow at hsm
  split at hsm
  · cases hsm
  · rename_i d hdst
    split at hsm
    · cases hsm
    · rename_i hdn
      have hdn := blt_t hdn
      -- the variables after it
      have fin : ∀ {ρ' : Rho} {v' : Value} {w' : World}, ExtN ρ ρ' lo → V ρ' (f.tmp d) v' → TM ρ' (Lg ops done r) f ⟨fn, tmps.setIfInBounds d v', .inRegion ops r :: k', defers, .run, kind, ro⟩ := by
        intro ρ' v' w' ext hv x y hx hy
        by_cases hxd : x = d
        · subst hxd
          refine ⟨v', ?_, ?_⟩
          · show (tmps.setIfInBounds x v')[x]? = some v'
            simp [hsz, hdn]
          · unfold AF.tmp at hv; rw [hy] at hv; exact hv
        · obtain ⟨u, u1, u2⟩ := t x y (by
            rintro ⟨j, p, h1, h2, h3, h4⟩
            rcases List.mem_cons.1 h1 with rfl | h1
            · rw [hio] at h3; cases h3; rw [hdst] at h4; exact hxd (Option.some.inj h4).symm
            · exact hx ⟨j, p, h1, h2, h3, h4⟩) hy
          refine ⟨u, ?_, u2.mono ext.1⟩
          show (tmps.setIfInBounds d v')[x]? = some u
          rw [Array.getElem?_setIfInBounds_ne (fun hh => hxd hh.symm)]; exact u1
      have hfin : ∀ {v' : Value}, Frame.finish ⟨fn, tmps, .inRegion ops (i :: r) :: k', defers, .run, kind, ro⟩ v' = ⟨fn, tmps.setIfInBounds d v', .inRegion ops r :: k', defers, .run, kind, ro⟩ := by
        intro v'
        simp [Frame.finish, hio, hdst]
      have hnd : ro = none ∨ ∀ c, o.op ≠ .defer c := by
        right
        intro c hc
        unfold isFloat at hflt
        rw [hc] at hflt
        simp [clsOf] at hflt
      split at hsm
      · cases hsm
      · -- it is not wanted
        rename_i hw
        have hwc := wanted_ok t (fun j w' oj d' g1 g2 g3 => nf d' (names_guard g1 g2 g3)) hw
        have e1 := eqV_sound hsm
        have hs := m_skipOp (P := b.P) (fn := fn) (tmps := tmps) (k := k') (defers := defers) (kind := kind) (ro := ro) (cs := cs') (w := w) (rest := r) hio hwc
        rw [hfin] at hs
        exact ⟨ρ, w, _, ExtN.refl _ _, hr, by simpa using hsz, dg un0, fin (w' := w) (ExtN.refl _ _) (by rw [e1]; exact V.tuple_mk .nil), hs⟩
      · rename_i hw
        have hwc := wanted_ok t (fun j w' oj d' g1 g2 g3 => nf d' (names_guard g1 g2 g3)) hw
        have go : ∀ {v' : Value} {w' : World}, (execOp (Frame.eval ⟨fn, tmps, .inRegion ops (i :: r) :: k', defers, .run, kind, ro⟩) o).run b.P w = .ok (.value v') w' →
            Steps b.P (lone ⟨fn, tmps, .inRegion ops (i :: r) :: k', defers, .run, kind, ro⟩ cs' w) (lone ⟨fn, tmps.setIfInBounds d v', .inRegion ops r :: k', defers, .run, kind, ro⟩ cs' w') := by
          intro v' w' hx
          refine st_go ?_
          rw [stepG_reg hio hwc hnd, ap_value hx, hfin]
        split at hsm
        · rename_i p hc
          split at hsm
          · rename_i x hp
            have e1 := eqV_sound hsm
            obtain ⟨v', k1, k2⟩ := pure_ok B hc w0 ρ h w f _ x hr hev hp
            exact ⟨ρ, w, _, ExtN.refl _ _, hr, by simpa using hsz, dg un0, fin (w' := w) (ExtN.refl _ _) (by rw [e1]; exact k2), go k1⟩
          · cases hsm
        · rename_i l hc
          split at hsm
          · rename_i c e k hlx
            obtain ⟨q, q1, q2⟩ := freshRow_inv hsm
            obtain ⟨c', k1, k2, k3, k4⟩ := lay_ok B hc w0 ρ h w f _ c e k hr hev hlx
            obtain ⟨u1, u2, u3⟩ := hd.unb i (by simp) hb o hio ⟨l, hc⟩ d hdst hdn q (by rw [q1]; exact blk_laid q k)
            have hlen := k2.length
            have hr2 := hr.birth (r := q) (x := layRow c e) (c' := c') u2 u3 q2 k3 (by simp at hlen; show c.length ≤ c'.size; omega)
              (by
                show VL ρ c (c'.toList.take c.length)
                rw [hlen, List.take_length]; exact k2) (fun _ => by simp at hlen; show c.length = c'.size; exact hlen) (0, 0) (fun j _ hh => by simp at hh)
            refine ⟨_, _, _, upd_extN u3 u1, hr2, by simpa using hsz, dg (fun j hj hb2 p hp hlp d2 hdd hdn2 z hz => ?_), fin (w' := w) (upd_extN u3 u1) (v' := laid w.heap.size k) ?_, go k1⟩
            · have hne : z ≠ q := by
                intro hh
                subst hh
                exact hd.dis i (by simp) hb j (by simp [hj]) hb2 (fun hh => hir (hh ▸ hj)) o p hio hp ⟨l, hc⟩ hlp d d2 hdst hdd hdn hdn2 z (by rw [q1]; exact blk_laid _ k) hz
              rw [upd_other _ _ hne]
              exact un0 j hj hb2 p hp hlp d2 hdd hdn2 z hz
            · rw [q1]
              exact V.laid (L := ⟨w.heap.size, 0, 0, c'.size⟩) (upd_same _ _ _) rfl k4
          · cases hsm
        · cases hsm
/-- Lagging operations are done as far as may be. -/
theorem lag_run (B : TbOk b) {lo : Nat} {f : AF} {h : H} {ops : Array Oper} {done : Nat} {lag : List Nat} {fn : FuncId} {k' : List Item} {defers : List Deferred} {kind : CallKind} {ro : Option Nat} {cs' : List Frame}
    (hgl : f.gl = b.gl) (hl : lo ≤ h.next) (hsame : allSame b f ops h lag = true) : ∀ (rest : List Nat) {ρ : Rho} {w : World} {tmps : Array Value},
    HR w0 ρ h w → GlOk b ρ → tmps.size = f.nt → DG b ρ lo h.next f ops done lag rest → TM ρ (Lg ops done rest) f ⟨fn, tmps, .inRegion ops rest :: k', defers, .run, kind, ro⟩ →
    ∃ ρ' w' tmps' rest', ExtN ρ ρ' lo ∧ HR w0 ρ' h w' ∧ tmps'.size = f.nt ∧ DG b ρ' lo h.next f ops done lag rest' ∧ TM ρ' (Lg ops done rest') f ⟨fn, tmps', .inRegion ops rest' :: k', defers, .run, kind, ro⟩ ∧
      Steps b.P (lone ⟨fn, tmps, .inRegion ops rest :: k', defers, .run, kind, ro⟩ cs' w) (lone ⟨fn, tmps', .inRegion ops rest' :: k', defers, .run, kind, ro⟩ cs' w') ∧ (rest' = [] ∨ ∃ i r, rest' = i :: r ∧ done.testBit i = false)
  | [], ρ, w, tmps, hr, hg, hsz, hd, t => ⟨ρ, w, tmps, [], ExtN.refl _ _, hr, hsz, hd, t, .refl _ _, .inl rfl⟩
  | i :: r, ρ, w, tmps, hr, hg, hsz, hd, t => by
    cases hb : done.testBit i with
    | false => exact ⟨ρ, w, tmps, i :: r, ExtN.refl _ _, hr, hsz, hd, t, .refl _ _, .inr ⟨i, r, rfl, hb⟩⟩
    | true =>
      obtain ⟨ρ1, w1, tm1, a1, a2, a3, a4, a5, a6⟩ := lag_one (cs' := cs') B hr hg hgl hsz hl hd hb t hsame
      obtain ⟨ρ2, w2, tm2, rest2, b1, b2, b3, b4, b5, b6, b7⟩ := lag_run B hgl hl hsame r a2 (hg.mono a1.1) a3 a4 a5
      exact ⟨ρ2, w2, tm2, rest2, a1.trans b1, b2, b3, b4, b5, a6.trans b6, b7⟩
theorem notIn_mem {m : Nat} : ∀ {l : List Nat} {j : Nat}, j ∈ l → m.testBit j = false → j ∈ notIn m l
  | [], _, h, _ => by simp at h
  | i :: r, j, h, hb => by
    simp only [notIn]
    split
    · rename_i h1
      rcases List.mem_cons.1 h with rfl | h
      · rw [hb] at h1; cases h1
      · exact notIn_mem h hb
    · rcases List.mem_cons.1 h with rfl | h
      · simp
      · exact List.mem_cons_of_mem _ (notIn_mem h hb)
theorem Gets.from {m m' : Machine} {s : AS} (h : Steps b.P m m') (g : Gets b w0 base m' s) : Gets b w0 base m s :=
  let ⟨fr, cs, w, h1, h2⟩ := g; ⟨fr, cs, w, h1, h.trans h2⟩
/-- A region that draws. -/
theorem dreg_ok (B : TbOk b) {orc : List Orc} (ho : OrcOk b w0 orc) {lo : Nat} {s : AS} {fn : FuncId} {tmps : Array Value} {k : List AI} {k' : List Item} {ops : Array Oper} {done : Nat} {lag rest : List Nat} {defers : List Deferred} {kind : CallKind} {ro : Option Nat} {cs' : List Frame} {w : World} {s' : AS}
    (hr : HR w0 ρ s.h w) (hg : GlOk b ρ) (hl : lo ≤ s.h.next) (hf : FR b ρ lo s.h.next s.f ⟨fn, tmps, .inRegion ops rest :: k', defers, .run, kind, ro⟩) (hmode : s.f.mode = .run) (hst : Stack b ρ base lo s.f.kind s.cs cs')
    (hk : TL ρ k k') (hd : DG b ρ lo s.h.next s.f ops done lag rest) (t : TM ρ (Lg ops done rest) s.f ⟨fn, tmps, .inRegion ops rest :: k', defers, .run, kind, ro⟩) (ha : s_dreg b orc s k ops done lag = .go s') :
    Gets b w0 base (lone ⟨fn, tmps, .inRegion ops rest :: k', defers, .run, kind, ro⟩ cs' w) s' := by
  unfold s_dreg at ha
  split at ha
  · cases ha
  rename_i d hfl
  obtain ⟨hr1, hn1, hd1, t1, al⟩ := floats_ok (g := s.f) (s := ⟨s.f, s.h, done, lag⟩) hr hl hd t ⟨rfl, rfl, rfl, rfl, rfl, rfl, rfl, rfl⟩ hfl
  have hn1 : s.h.next ≤ d.h.next := hn1
  split at ha
  · cases ha
  rename_i hsame
  have hgl : d.f.gl = b.gl := al.gl.trans hf.gl
  have hsz : tmps.size = d.f.nt := hf.size.trans al.nt.symm
  obtain ⟨ρ2, w2, tm2, rest2, ext, hr2, hsz2, hd2, t2, hst2, hend⟩ := lag_run (cs' := cs') B hgl (Nat.le_trans hl hn1) hsame rest hr1 hg hsz hd1 t1
  have hg2 := hg.mono ext.1
  have hk2 := hk.mono ext.1
  have hstk : Stack b ρ2 base lo d.f.kind s.cs cs' := by rw [al.kind]; exact hst.mono ext
  -- the other parts of the activation
  have fr2 : ∀ {f : AF} {td : List Item}, Alike f s.f → TD b ρ2 lo d.h.next f ⟨fn, tm2, td, defers, .run, kind, ro⟩ → FR b ρ2 lo d.h.next f ⟨fn, tm2, td, defers, .run, kind, ro⟩ := by
    intro f td al2 htd
    refine ⟨?_, ?_, ?_, ?_, ?_, ?_, ?_, ?_, ?_, htd⟩
    · rw [al2.id]; exact hf.fn
    · rw [al2.kind]; exact hf.kind
    · rw [al2.kind]; exact hf.kd
    · rw [al2.defers]; exact hf.dfs.mono ext.1
    · rw [al2.mode]; exact hf.mode.mono ext.1
    · rw [al2.round]; exact hf.round.mono ext.1
    · show tm2.size = _
      rw [hsz2, al2.nt, al.nt]
    · rw [al2.gl]; exact hf.gl
    · rw [al2.round, al2.id, al2.res]; exact hf.res
  refine Gets.from hst2 ?_
  -- whoever comes next in the order is ready
  have rdy : ∀ {i : Nat} {r : List Nat}, rest2 = i :: r → d.done.testBit i = false → ∃ o, ops[i]? = some o ∧ (i, o) ∈ readyD d.done ops.toList 0 := by
    intro i r hrs hb
    subst hrs
    obtain ⟨o, hio, he, hir, hord⟩ := hd2.ord.inv
    refine ⟨o, hio, ?_⟩
    have := readyD_of (done := d.done) (os := ops.toList) (j := 0) (k := i) (o := o) (by simpa using hio) (by rw [Nat.zero_add]; exact hb) (edgesIn_of fun e h1 h2 => ?_)
    · rw [Nat.zero_add] at this; exact this
    · cases hq : d.done.testBit e.on with
      | true => rfl
      | false =>
        have hlt := reg_edges hd2.reg hio e h1 h2
        have hs : i < ops.size := (Array.getElem?_eq_some_iff.1 hio).1
        exact absurd (hd2.todo e.on (by omega) hq) (he e h1 h2)
  split at ha
  · -- the end
    rename_i hre
    split at ha
    case h_2 => cases ha
    cases ha
    have hrest : rest2 = [] := by
      rcases hend with h | ⟨i, r, h1, h2⟩
      · exact h
      · obtain ⟨o, _, hm⟩ := rdy h1 h2
        rw [hre] at hm; simp at hm
    subst hrest
    refine ⟨_, cs', w2, ⟨ρ2, lo, hr2, hg2, Nat.le_trans hl hn1, fr2 (f := { d.f with todo := k }) ⟨al.id, al.nt, al.res, al.defers, al.mode, al.kind, al.round, al.gl⟩ (.plain hk2 ?_), hstk⟩, m_regionEnd⟩
    intro x y hx hy
    exact t2 x y (fun ⟨j, p, h1, _⟩ => by simp at h1) hy
  · -- one operation
    rename_i i o hre
    have him : (i, o) ∈ readyD d.done ops.toList 0 := by rw [hre]; simp
    obtain ⟨kk, k1, k2, hbi⟩ := readyD_mem him
    have hio : ops[i]? = some o := by rw [k1, Nat.zero_add]; simpa using k2
    have his : i < ops.size := (Array.getElem?_eq_some_iff.1 hio).1
    have hrest : ∃ r, rest2 = i :: r := by
      rcases hend with h | ⟨i2, r, h1, h2⟩
      · have := hd2.todo i his hbi
        rw [h] at this; simp at this
      · obtain ⟨o2, _, hm⟩ := rdy h1 h2
        rw [hre] at hm
        simp at hm
        exact ⟨r, by rw [h1, hm.1]⟩
    obtain ⟨r, hrest⟩ := hrest
    subst hrest
    obtain ⟨o2, hio2, he, hir, hord⟩ := hd2.ord.inv
    rw [hio] at hio2; cases hio2
    have nf : ∀ x ∈ names ops o, ¬ Lg ops d.done (i :: r) x := fun x hx => names_free hd2 hio he hx
    have hev : ∀ x ∈ o.op.operands.toList, V ρ2 (d.f.eval x) (Frame.eval ⟨fn, tm2, .inRegion ops (i :: r) :: k', defers, .run, kind, ro⟩ x) := fun x hx => t2.eval hg2 hgl (fun y hy => nf y (names_op (by rw [← hy]; exact hx)))
    have hf2 : FR b ρ2 lo d.h.next { d.f with todo := .dreg ops (d.done ||| 2 ^ i) (notIn (nth (ancs ops) i) d.lag) (some (i, o)) :: k } ⟨fn, tm2, .inRegion ops (i :: r) :: k', defers, .run, kind, ro⟩ := by
      refine fr2 ⟨al.id, al.nt, al.res, al.defers, al.mode, al.kind, al.round, al.gl⟩ (.dnow rfl rfl hk2 hio hir ?_ ?_)
      · have old : ∀ {j}, j ∈ r → (d.done ||| 2 ^ i).testBit j = true → d.done.testBit j = true := by
          intro j hj hb
          rcases bit_or.1 hb with h | h
          · exact h
          · exact absurd (h ▸ hj) hir
        refine ⟨hd2.reg, hord, fun j hj hb => ?_, fun j hj hb => ?_, fun j hj hb => hd2.flt j (by simp [hj]) (old hj hb), fun j hj hb => hd2.unb j (by simp [hj]) (old hj hb), fun j hj hb c hc hbc => hd2.dis j (by simp [hj]) (old hj hb) c (by simp [hc]) (old hc hbc), fun j p hp hj => ?_⟩
        · rw [Nat.testBit_or, Bool.or_eq_false_iff] at hb
          rcases List.mem_cons.1 (hd2.todo j hj hb.1) with h | h
          · subst h
            have := hb.2
            rw [Nat.testBit_two_pow] at this
            simp at this
          · exact h
        · refine notIn_mem (hd2.lagm j (by simp [hj]) (old hj hb)) ?_
          cases hq : (nth (ancs ops) i).testBit j with
          | false => rfl
          | true => exact absurd (List.mem_cons_of_mem i hj) (anc_out hd2.reg hd2.clo (i + 1) i o (by omega) hio he j hq)
        · by_cases hji : j = i
          · subst hji; rw [hio] at hp; cases hp
            intro e h1 h2 h3; exact he e h1 h2 (by simp [h3])
          · intro e h1 h2 h3
            exact hd2.clo j p hp (by simp [hji, hj]) e h1 h2 (by simp [h3])
      · intro x y hx hy
        refine t2 x y (fun ⟨j, p, h1, h2, h3, h4⟩ => hx ?_) hy
        rcases List.mem_cons.1 h1 with rfl | h1
        · rw [hbi] at h2; cases h2
        · exact ⟨j, p, h1, bit_or.2 (.inl h2), h3, h4⟩
    simp only at ha
    split at ha
    · rename_i hw
      have hwc := wanted_ok t2 (fun j w' oj d' g1 g2 g3 => nf d' (names_guard g1 g2 g3)) hw
      have hpost := oneOp_ok B (o := o) (f := d.f) hr2 hev
      have hnd : ro = none ∨ ∀ c, o.op ≠ .defer c := by
        cases hq : s.f.round with
        | none =>
          have := hf.round
          rw [hq] at this
          simp only at this
          left; cases this; rfl
        | some l => right; exact oneOp_notDefer (by rw [al.round, hq]; simp) (apply_notBad ha)
      exact apply_ok B ho hr2 hg2 (Nat.le_trans hl hn1) hf2 (.dnow rfl) (by rw [← hmode]; exact al.mode) hstk hpost ha (fun fr2 cs2 w2 hb => st_go (by rw [stepG_reg hio hwc hnd]; exact hb))
    · rename_i hw
      have hwc := wanted_ok t2 (fun j w' oj d' g1 g2 g3 => nf d' (names_guard g1 g2 g3)) hw
      cases ha
      refine ⟨_, cs', w2, ⟨ρ2, lo, hr2, hg2, Nat.le_trans hl hn1, hf2.finish (.dnow rfl) (V.tuple_mk .nil), ?_⟩, m_skipOp hio hwc⟩
      show Stack b ρ2 base lo (AF.finish _ undef).kind s.cs cs'
      rw [finish_kind]; exact hstk
    · cases ha
  · cases ha
end
end Go.Ev
end

section
set_option linter.unusedVariables false
set_option linter.unusedSimpArgs false
namespace Go.Ev
open Go Go.RowKit
section
variable {b : Tb} {ρ : Rho} {w0 : World} {base : List Frame}
theorem TL.dreg_no {ops : Array Oper} {done : Nat} {lag : List Nat} {n : Option (Nat × Oper)} {k : List AI} {k' : List Item} (h : TL ρ (.dreg ops done lag n :: k) k') : False := by cases h
theorem run_ok (B : TbOk b) {orc : List Orc} (ho : OrcOk b w0 orc) {lo : Nat} {s : AS} {fr : Frame} {cs' : List Frame} {w : World} {s' : AS}
    (hr : HR w0 ρ s.h w) (hg : GlOk b ρ) (hl : lo ≤ s.h.next) (hf : FR b ρ lo s.h.next s.f fr) (hmode : s.f.mode = .run) (hst : Stack b ρ base lo s.f.kind s.cs cs') (ha : s_run b orc s = .go s') : Gets b w0 base (lone fr cs' w) s' := by
  obtain ⟨fn, tmps, todo, defers, mode, kind, ro⟩ := fr
  have hm := hf.mode
  rw [hmode] at hm
  simp only at hm
  cases hm
  have htd := hf.todo
  cases htd with
  | dreg h1 h2 hk hd t =>
    simp only at h2; subst h2
    unfold s_run at ha
    rw [h1] at ha
    exact dreg_ok B ho hr hg hl hf hmode hst hk hd t ha
  | dnow h1 => unfold s_run at ha; rw [h1] at ha; cases ha
  | plain htl t =>
    have go : ∀ {td : List AI} {td' : List Item}, TL ρ td td' → Steps b.P (lone ⟨fn, tmps, todo, defers, .run, kind, ro⟩ cs' w) (lone ⟨fn, tmps, td', defers, .run, kind, ro⟩ cs' w) →
        Gets b w0 base (lone ⟨fn, tmps, todo, defers, .run, kind, ro⟩ cs' w) { s with f := { s.f with todo := td } } := fun htl hs => ⟨_, cs', w, ⟨ρ, lo, hr, hg, hl, hf.plain t htl, hst⟩, hs⟩
    have hround := hf.round
    simp only at hround htl
    unfold s_run at ha
    generalize htd : s.f.todo = td at ha htl
    cases htl with
    | nil => exact leave_ok B hr hg hl hf hst (.inl ⟨rfl, rfl⟩) ha
    | code c hk => exact code_ok B ho hr hg hl hf hmode hst t hk ha
    | inBlock l hk => cases ha; exact go hk m_inBlock
    | inScope c hk => cases ha; exact go hk m_inScope
    | inLoop c hk => cases ha; exact go (.code c (.inLoop c hk)) m_inLoop
    | inRange hk hL => cases ha
    | reg ops i hk hrr =>
      rename_i r k k'
      cases r with
      | nil =>
        cases ha
        exact go hk m_regionEnd
      | cons o r => exact reg_ok B ho hr hg hl hf hmode hst t htd (.reg ops i hk hrr) ha
    | begin hk =>
      simp only at ha
      split at ha
      case h_2 => cases ha
      rename_i l hrd
      split at ha
      case h_2 => cases ha
      rename_i pd f2 nt tm ps asg bd d hget
      cases ha
      rw [hrd] at hround
      cases hround with
      | some hL =>
        rename_i L
        obtain ⟨tm', ps', D, d1, d2, d3, d4, d5⟩ := hr.loop hL hget
        have hr2 := hr.putObj (o2 := .loop .busy pd f2 nt tm ps asg bd d) (o2' := .loop ⟨.busy, pd, f2, tm', ps', asg, bd, D.b⟩) hL hget (.loop d1 d2 d3)
        have hset := run_setObj (P := b.P) d4 (by intro _ _ _ hh; cases hh) (.loop ⟨.busy, pd, f2, tm', ps', asg, bd, D.b⟩)
        exact ⟨_, cs', _, ⟨ρ, lo, hr2, hg, hl, hf.plain t hk, hst⟩, m_begin (by simp [Instr.beginRound, d5, hset])⟩
    | endRange hk hL =>
      rename_i l L k k'
      simp only at ha
      split at ha
      case h_2 => cases ha
      rename_i st pd f2 nt tm ps asg bd d hget
      have hne : ∀ {st2 : LoopState}, st2 = st → st ≠ .busy → (st == .busy) = false := fun _ h => by cases st <;> first | rfl | exact absurd rfl h
      have main : ∀ {td2 : List AI}, st ≠ .busy → TL ρ td2 ((pd.map Item.code).toList ++ k') →
          Gets b w0 base (lone ⟨fn, tmps, .endRangeFunc L.b :: k', defers, .run, kind, ro⟩ cs' w) ⟨{ s.f with todo := td2 }, s.cs, s.h.put l (.obj (.loop .exhausted pd f2 nt tm ps asg bd d))⟩ := by
        intro td2 hnb htd2
        obtain ⟨tm', ps', D, d1, d2, d3, d4, d5⟩ := hr.loop hL hget
        have hr2 := hr.putObj (o2 := .loop .exhausted pd f2 nt tm ps asg bd d) (o2' := .loop ⟨.exhausted, pd, f2, tm', ps', asg, bd, D.b⟩) hL hget (.loop d1 d2 d3)
        have hset := run_setObj (P := b.P) d4 (by intro _ _ _ hh; cases hh) (.loop ⟨.exhausted, pd, f2, tm', ps', asg, bd, D.b⟩)
        have hb := hne (st2 := st) rfl hnb
        exact ⟨⟨fn, tmps, (pd.map Item.code).toList ++ k', defers, .run, kind, ro⟩, cs', _, ⟨ρ, lo, hr2, hg, hl, hf.plain t htd2, hst⟩, m_endRange (by simp [Instr.endLoop, d5, hset, hnb])⟩
      cases st with
      | busy => cases ha
      | ready => cases pd <;> (cases ha; first | exact main (by intro h; cases h) hk | exact main (by intro h; cases h) (.code _ hk))
      | done => cases pd <;> (cases ha; first | exact main (by intro h; cases h) hk | exact main (by intro h; cases h) (.code _ hk))
      | exhausted => cases pd <;> (cases ha; first | exact main (by intro h; cases h) hk | exact main (by intro h; cases h) (.code _ hk))
theorem step_ok (B : TbOk b) {orc : List Orc} (ho : OrcOk b w0 orc) {s : AS} {fr : Frame} {cs' : List Frame} {w : World} {s' : AS} (h : SR b w0 base s fr cs' w) (ha : Ev.step b orc s = .go s') : Gets b w0 base (lone fr cs' w) s' := by
  obtain ⟨ρ, lo, hr, hg, hl, hf, hst⟩ := h
  unfold Ev.step at ha
  split at ha
  · rename_i hm; exact run_ok B ho hr hg hl hf hm hst ha
  · rename_i hm; exact unw_ok B hr hg hl hf (fun hh => hm hh) hst ha
/-- The end of the whole run. -/
theorem ret_done (B : TbOk b) {orc : List Orc} {s : AS} {fr : Frame} {cs' : List Frame} {w : World} {v : Value} {s' : AS} (h : SR b w0 base s fr cs' w) (ha : Ev.step b orc s = .done v s') :
    s' = s ∧ cs' = base ∧ fr.fn = s.f.id ∧ Below w0.heap.size w0 w ∧ ∃ ρ v', HR w0 ρ s.h w ∧ V ρ v v' ∧ fr.leaving b.P w (.returned v') := by
  obtain ⟨ρ, lo, hr, hg, hl, hf, hst⟩ := h
  obtain ⟨fn, tmps, td, defers, mode, kind, ro⟩ := fr
  unfold Ev.step at ha
  split at ha
  · -- the first loop's cases cannot end
    rename_i hm
    exfalso
    unfold s_run at ha
    have lv : ∀ {j : Option Code}, Ev.leave b s j = .done v s' → False := by
      intro j h
      unfold Ev.leave at h
      split at h
      · split at h <;> cases h
      · split at h <;> cases h
    have ap : ∀ {f : AF} {cs : List AF} {r : Ro}, Ev.apply b orc f cs r = .done v s' → False := by
      intro f cs r h
      cases r with
      | enter g a h' =>
        simp only [Ev.apply] at h
        split at h
        · split at h
          · split at h <;> cases h
          · cases h
        · split at h <;> cases h
      | recov h' =>
        simp only [Ev.apply] at h
        split at h
        · cases h
        · split at h <;> cases h
      | _ => simp only [Ev.apply] at h; cases h
    split at ha
    · exact lv ha
    · rename_i c k _
      cases c with
      | region id ops d =>
        cases d
        · simp only [s_code] at ha; cases ha
        · simp only [s_code] at ha; split at ha <;> cases ha
      | cond x y z => simp only [s_code] at ha; split at ha <;> cases ha
      | exit id =>
        simp only [s_code] at ha
        split at ha
        · cases ha
        · exact lv ha
      | ret => simp only [s_code] at ha; exact lv ha
      | rangeFunc x p a c =>
        simp only [s_code] at ha
        split at ha
        · cases ha
        · split at ha
          · exact ap ha
          · cases ha
      | _ => simp only [s_code] at ha; cases ha
    · cases ha
    · cases ha
    · cases ha
    · cases ha
    · unfold s_reg at ha
      split at ha
      · exact ap ha
      · cases ha
      · cases ha
    · unfold s_dreg at ha
      split at ha
      · cases ha
      · split at ha
        · cases ha
        · split at ha
          · split at ha <;> cases ha
          · simp only at ha
            split at ha
            · exact ap ha
            · cases ha
            · cases ha
          · cases ha
    · cases ha
    · cases ha
    · split at ha
      · split at ha <;> cases ha
      · cases ha
    · split at ha
      · split at ha <;> cases ha
      · cases ha
  · rename_i hm
    unfold s_unw at ha
    split at ha
    · split at ha <;> cases ha
    · split at ha <;> cases ha
    · cases ha
    · rename_i hq
      have hd := hf.dfs
      rw [hq] at hd
      simp only at hd
      cases hd
      split at ha
      · cases ha
      · split at ha <;> cases ha
      · rename_i hmd
        have hm := hf.mode
        rw [hmd] at hm
        simp only at hm
        cases hm
        unfold s_ret at ha
        split at ha
        case h_2 => cases ha
        rename_i v2 hrd hfree hres
        obtain ⟨lg, g1, g2⟩ := hf.free hfree
        obtain ⟨f, f1, f2⟩ := hf.res hrd
        obtain ⟨v', r1, r2⟩ := resOf_ok B hr g1 g2 f2 hres
        have hfn : fn = s.f.id := hf.fn
        split at ha
        · rename_i hcs
          split at ha
          · rename_i hkd
            cases ha
            have hk := hf.kind
            rw [hkd] at hk
            simp only at hk
            subst hk
            rw [hcs, hkd] at hst
            cases hst
            exact ⟨rfl, rfl, hfn, hr.bel, ρ, v', hr, r2, rfl, rfl, rfl, f, by rw [← hfn] at f1; exact f1, r1⟩
          · cases ha
        · split at ha
          · cases ha
          · split at ha <;> cases ha
          · cases ha
theorem runs_ok (B : TbOk b) {orc : List Orc} (ho : OrcOk b w0 orc) : ∀ (n : Nat) {s : AS} {m : Machine} {v : Value} {s' : AS}, Gets b w0 base m s → Ev.run b orc n s = .done v s' →
    ∃ fr w ρ v', Steps b.P m (lone fr base w) ∧ fr.fn = s'.f.id ∧ Below w0.heap.size w0 w ∧ HR w0 ρ s'.h w ∧ V ρ v v' ∧ fr.leaving b.P w (.returned v')
  | 0, s, m, v, s', _, h => by cases h
  | n + 1, s, m, v, s', g, h => by
    obtain ⟨fr, cs, w, sr, st⟩ := g
    have h : (match Ev.step b orc s with | .go s => Ev.run b orc n s | o => o) = .done v s' := h
    split at h
    · rename_i s2 hs
      exact runs_ok B ho n ((step_ok B ho sr hs).from st) h
    · rename_i o hno
      obtain ⟨e1, e2, e3, e4, ρ, v', e5, e6, e7⟩ := ret_done B sr h
      subst e1 e2
      exact ⟨fr, w, ρ, v', st, e3, e4, e5, e6, e7⟩
/-- Memory of which nothing is known. -/
theorem HR.empty (w : World) : HR w (fun _ => none) ⟨T.e, 0⟩ w :=
  { bel := Below.refl _ _, dom := fun h => (by cases h), low := fun h => (by cases h), has := fun h => (by cases h), top := fun h => by simp [H.get, T.get_e] at h, row := fun h => (by cases h), obj := fun h => (by cases h), sep := fun h => (by cases h), sepo := fun h => (by cases h),
    uniq := fun h => by simp [H.get, T.get_e] at h, psp := fun h => by simp [H.get, T.get_e] at h, plt := fun h => by simp [H.get, T.get_e] at h }
/-- A run from the start. -/
theorem start_ok (B : TbOk b) {f : FuncId} {args : List Value} {args' : Array Value} {h : H} {s : AS} {w : World} (hr : HR w ρ h w) (hg : GlOk b ρ) (hv : VL ρ args args'.toList) (hs : start b h f args = some s) (base : List Frame) :
    Gets b w base (lone (Frame.enter b.P f args' .normal) base w) s := by
  unfold start at hs
  split at hs
  · rename_i x hx
    cases hs
    obtain ⟨e1, e2⟩ := enterF_ok (n := h.next) B (.inl rfl) hx hv
    refine ⟨_, base, w, ⟨ρ, h.next, hr, hg, Nat.le_refl _, e1, ?_⟩, .refl _ _⟩
    show Stack b ρ base h.next x.kind [] base
    rw [e2]; exact .nil _
  · cases hs
/-- The outcome of a closed run: a value without addresses. -/
noncomputable def outcome (b : Tb) (orc : List Orc) (n : Nat) (h : H) (f : FuncId) (args : List Value) : Option Value := match start b h f args with
  | some s => match Ev.run b orc n s with
    | .done v s' => match flat v, Nat.beq s'.f.id f with
      | true, true => some v
      | _, _ => none
    | _ => none
  | none => none
theorem outcome_ok (B : TbOk b) {orc : List Orc} {n : Nat} {h : H} {f : FuncId} {args : List Value} {v : Value} {w : World} (ho : OrcOk b w orc) (hr : HR w ρ h w) (hg : GlOk b ρ) (ha : flatL args = true) (hx : outcome b orc n h f args = some v) :
    Calls b.P f args.toArray w fun e w' => e = .returned v ∧ Below w.heap.size w w' := by
  intro cs
  unfold outcome at hx
  split at hx
  · rename_i s hs
    split at hx
    · rename_i v2 s' hrun
      split at hx
      · rename_i h1 h2
        cases hx
        have hvl : VL ρ args args := by
          have : ∀ {l : List Value}, flatL l = true → VL ρ l l := by
            intro l
            induction l with
            | nil => intro _; exact .nil
            | cons x r ih =>
              intro h
              have hx := flatL_mem h x (by simp)
              refine .cons (V.of_flat ρ hx) (ih ?_)
              simp only [flatL, hx] at h; exact h
          exact this ha
        obtain ⟨fr, w', ρ', v', e1, e2, e3, e4, e5, e6⟩ := runs_ok B ho n (start_ok (args' := args.toArray) B hr hg (by simpa using hvl) hs cs) hrun
        have e7 := e5.flat h1
        subst e7
        exact ⟨_, w', fr, ⟨rfl, e3⟩, e1, e2.trans (by simpa using h2), e6⟩
      · cases hx
    · cases hx
  · cases hx
end
end Go.Ev
end
