/- The relation between the abstract memory and a world. The relation between the abstract memory and a world: what is read and written, objects, append. The relation between the abstract memory and a world: what is read, objects, append, what strings share. -/
import Derived.Test.YtoefpcepplgkeaaGreatMa
import Derived.Below
section
set_option linter.unusedVariables false
set_option linter.unusedSimpArgs false
namespace Go.Ev
open Go Go.RowKit
theorem H.get_put (h : H) (i j : Nat) (b : AB) : (h.put i b).get j = if j = i then some b else h.get j := T.get_set b h.t i j
theorem H.get_push (h : H) (j : Nat) (b : AB) : (h.push b).get j = if j = h.next then some b else h.get j := T.get_set b h.t h.next j
theorem H.next_put (h : H) (i : Nat) (b : AB) : (h.put i b).next = h.next := rfl
theorem H.next_push (h : H) (b : AB) : (h.push b).next = h.next + 1 := rfl
/-- Deferred calls. -/
inductive TgR (ρ : Rho) : Target → Target → Prop
  | fn (f : FuncId) {cp cp' : Array Value} (h : VL ρ cp.toList cp'.toList) : TgR ρ (.fn (.func f) cp) (.fn (.func f) cp')
  | col {r : Nat} {L : Loc} (h : ρ r = some L) : TgR ρ (.collected r) (.collected L.b)
structure DR (ρ : Rho) (d d' : Deferred) : Prop where
  t : TgR ρ d.target d'.target
  a : VL ρ d.args.toList d'.args.toList
inductive DL (ρ : Rho) : List Deferred → List Deferred → Prop
  | nil : DL ρ [] []
  | cons {d d' : Deferred} {l l' : List Deferred} (h : DR ρ d d') (t : DL ρ l l') : DL ρ (d :: l) (d' :: l')
/-- Temporaries. -/
structure TR (ρ : Rho) (nt : Nat) (t : T Value) (a : Array Value) : Prop where
  size : a.size = nt
  get : ∀ (i : Nat) (v : Value), t.get i = some v → ∃ v', a[i]? = some v' ∧ V ρ v v'
structure MR (ρ : Rho) (e e' : MapEntry) : Prop where
  k : V ρ e.key e'.key
  v : V ρ e.val e'.val
  b : e'.born = e.born
inductive ML (ρ : Rho) : List MapEntry → List MapEntry → Prop
  | nil : ML ρ [] []
  | cons {e e' : MapEntry} {l l' : List MapEntry} (h : MR ρ e e') (t : ML ρ l l') : ML ρ (e :: l) (e' :: l')
inductive OR (ρ : Rho) : AObj → Obj → Prop
  | map {es : List MapEntry} {es' : Array MapEntry} (clock : Nat) (h : ML ρ es es'.toList) : OR ρ (.map es clock) (.map es' clock)
  | iter0 {seen : List Nat} {seen' : Array Nat} (s l : Nat) (h : seen'.toList = seen) : OR ρ (.mapIter none s seen l) (.mapIter none s seen' l)
  | iter {m : Nat} {L : Loc} {seen : List Nat} {seen' : Array Nat} (s l : Nat) (hm : ρ m = some L) (h : seen'.toList = seen) : OR ρ (.mapIter (some m) s seen l) (.mapIter (some L.b) s seen' l)
  | str (s : ByteArray) (p : Nat) : OR ρ (.strIter s p) (.stringIter s p)
  | loop {st : LoopState} {pd : Option Code} {fn : FuncId} {nt : Nat} {tm : T Value} {tm' : Array Value} {ps : List Tmp} {ps' : Array Tmp} {asg bd : Code} {d : Nat} {L : Loc}
      (hd : ρ d = some L) (ht : TR ρ nt tm tm') (hp : ps'.toList = ps) : OR ρ (.loop st pd fn nt tm ps asg bd d) (.loop ⟨st, pd, fn, tm', ps', asg, bd, L.b⟩)
  | def0 : OR ρ (.deferred none) (.deferred none)
  | def1 {ds ds' : List Deferred} (h : DL ρ ds ds') : OR ρ (.deferred (some ds)) (.deferred (some ds'))
theorem TgR.mono {ρ ρ' : Rho} (e : Ext ρ ρ') {d d' : Target} (h : TgR ρ d d') : TgR ρ' d d' := by
  cases h with
  | fn f h => exact .fn f (h.mono e)
  | col h => exact .col (e _ _ h)
theorem DR.mono {ρ ρ' : Rho} (e : Ext ρ ρ') {d d' : Deferred} (h : DR ρ d d') : DR ρ' d d' := ⟨h.t.mono e, h.a.mono e⟩
theorem DL.mono {ρ ρ' : Rho} (e : Ext ρ ρ') {d d' : List Deferred} (h : DL ρ d d') : DL ρ' d d' := by
  induction h with
  | nil => exact .nil
  | cons h t ih => exact .cons (h.mono e) ih
theorem DL.append {ρ : Rho} {d d' k k' : List Deferred} (h : DL ρ d d') (g : DL ρ k k') : DL ρ (d ++ k) (d' ++ k') := by
  induction h with
  | nil => exact g
  | cons h t ih => exact .cons h ih
theorem TR.mono {ρ ρ' : Rho} (e : Ext ρ ρ') {nt : Nat} {t : T Value} {a : Array Value} (h : TR ρ nt t a) : TR ρ' nt t a :=
  ⟨h.size, fun i v hv => let ⟨v', h1, h2⟩ := h.get i v hv; ⟨v', h1, h2.mono e⟩⟩
theorem MR.mono {ρ ρ' : Rho} (e : Ext ρ ρ') {x y : MapEntry} (h : MR ρ x y) : MR ρ' x y := ⟨h.k.mono e, h.v.mono e, h.b⟩
theorem ML.mono {ρ ρ' : Rho} (e : Ext ρ ρ') {x y : List MapEntry} (h : ML ρ x y) : ML ρ' x y := by
  induction h with
  | nil => exact .nil
  | cons h t ih => exact .cons (h.mono e) ih
theorem OR.mono {ρ ρ' : Rho} (e : Ext ρ ρ') {o : AObj} {o' : Obj} (h : OR ρ o o') : OR ρ' o o' := by
  cases h with
  | map c h => exact .map c (h.mono e)
  | iter0 s l h => exact .iter0 s l h
  | iter s l hm h => exact .iter s l (e _ _ hm) h
  | str s p => exact .str s p
  | loop hd ht hp => exact .loop (e _ _ hd) (ht.mono e) hp
  | def0 => exact .def0
  | def1 h => exact .def1 (h.mono e)
theorem OR.notCells {ρ : Rho} {o : AObj} {o' : Obj} (h : OR ρ o o') : ∀ c e f, o' ≠ .cells c e f := by
  cases h <;> intro c e f hh <;> cases hh

/-- A row of the abstract memory lies at its place. -/
structure RowR (ρ : Rho) (w : World) (L : Loc) (x : Row) : Prop where
  row : ∃ c' fr, w.heap[L.b]? = some (.cells c' x.e fr) ∧ c'.size = L.E ∧ (x.sp = false → ∀ j, j < L.E → ¬ (fr.1 ≤ j ∧ j < fr.2)) ∧
    ∀ (i : Nat) (v : Value), x.c[i]? = some v → okc v = true ∧ ∃ v', c'[L.d + i]? = some v' ∧ V ρ v v'
  len : x.c = [] ∨ L.d + x.c.length ≤ L.E
  st : L.st = x.st
  exact : x.st = 0 → x.c = [] ∨ (L.d = 0 ∧ x.c.length = L.E)
theorem RowR.mono {ρ ρ' : Rho} (e : Ext ρ ρ') {w w' : World} {L : Loc} {x : Row} (h : RowR ρ w L x) (hw : w'.heap[L.b]? = w.heap[L.b]?) : RowR ρ' w' L x :=
  ⟨let ⟨c', fr, h1, h2, h3, h4⟩ := h.row; ⟨c', fr, hw.trans h1, h2, h3, fun i v hv => let ⟨k, v', a, b⟩ := h4 i v hv; ⟨k, v', a, b.mono e⟩⟩, h.len, h.st, h.exact⟩
/-- Where a younger row's cells come from. -/
def Par (ρ : Rho) (h : H) (r : Nat) (L : Loc) (x : Row) (r' : Nat) : Prop :=
  ∃ p o Lp y, x.par = some (p, o) ∧ r' ≤ p ∧ p < r ∧ ρ p = some Lp ∧ Lp.b = L.b ∧ h.get p = some (.row y) ∧ L.d = Lp.d + o ∧ ∀ i, i < x.k → o + i < y.c.length
/-- A younger row (r) and an older one (r') of one block. -/
structure Sep (ρ : Rho) (h : H) (r : Nat) (L : Loc) (x : Row) (r' : Nat) (L' : Loc) (x' : Row) : Prop where
  sp : x'.sp = true
  fin : x.sp = false → x'.c ≠ [] → L'.d + x'.c.length ≤ L.d + x.c.length
  cut : ∀ (i i' : Nat), i < x.c.length → i' < x'.c.length → L.d + i = L'.d + i' → i < x.k
  par : (x.sp = false ∨ x.c ≠ []) → x'.c ≠ [] → Par ρ h r L x r'
structure HR (w0 : World) (ρ : Rho) (h : H) (w : World) : Prop where
  bel : Below w0.heap.size w0 w
  dom : ∀ {r L}, ρ r = some L → r < h.next ∧ L.b < w.heap.size
  low : ∀ {r L}, ρ r = some L → L.b < w0.heap.size → ∃ x, h.get r = some (.row x) ∧ x.sp = true
  has : ∀ {r L}, ρ r = some L → ∃ x, h.get r = some x
  top : ∀ {r b}, h.get r = some b → r < h.next
  row : ∀ {r L x}, ρ r = some L → h.get r = some (.row x) → RowR ρ w L x
  obj : ∀ {r L o}, ρ r = some L → h.get r = some (.obj o) → L.d = 0 ∧ ∃ o', w.heap[L.b]? = some o' ∧ OR ρ o o'
  sep : ∀ {r L x r' L' x'}, ρ r = some L → ρ r' = some L' → h.get r = some (.row x) → h.get r' = some (.row x') → r' < r → L.b = L'.b → Sep ρ h r L x r' L' x'
  sepo : ∀ {r L r' L' o}, ρ r = some L → ρ r' = some L' → h.get r = some (.obj o) → L.b = L'.b → r = r'
  uniq : ∀ {r r' x x' p o o'}, h.get r = some (.row x) → h.get r' = some (.row x') → x.par = some (p, o) → x'.par = some (p, o') → r = r'
  psp : ∀ {r x p o y}, h.get r = some (.row x) → x.par = some (p, o) → h.get p = some (.row y) → y.sp = true
  plt : ∀ {r x p o}, h.get r = some (.row x) → x.par = some (p, o) → p < r
def upd (ρ : Rho) (r : Nat) (L : Loc) : Rho := fun i => if i = r then some L else ρ i
theorem upd_ext {ρ : Rho} {r : Nat} {L : Loc} (h : ρ r = none) : Ext ρ (upd ρ r L) := by
  intro i M hi
  unfold upd
  split
  · rename_i he; rw [he, h] at hi; cases hi
  · exact hi
theorem upd_same (ρ : Rho) (r : Nat) (L : Loc) : upd ρ r L r = some L := by simp [upd]
theorem upd_other (ρ : Rho) {r i : Nat} (L : Loc) (h : i ≠ r) : upd ρ r L i = ρ i := by simp [upd, h]
theorem HR.fresh {w0 : World} {ρ : Rho} {h : H} {w : World} (hr : HR w0 ρ h w) {r : Nat} (hn : h.next ≤ r) : ρ r = none := by
  cases hp : ρ r with
  | none => rfl
  | some L => have := (hr.dom hp).1; omega
theorem HR.get_next {w0 : World} {ρ : Rho} {h : H} {w : World} (hr : HR w0 ρ h w) : h.get h.next = none := by
  cases hp : h.get h.next with
  | none => rfl
  | some b => have := hr.top hp; omega
/-- The world's heap alone counts. -/
theorem HR.congr {w0 : World} {ρ : Rho} {h : H} {w w' : World} (hr : HR w0 ρ h w) (hh : w'.heap = w.heap) (ho : w'.os = w.os) (ht : w'.tape = w.tape) (hu : w'.output = w.output) : HR w0 ρ h w' :=
  { hr with
    bel := hr.bel.trans ⟨ho, ht, hu, by rw [hh]; omega, fun k _ => by rw [hh]⟩
    dom := fun hp => by rw [hh]; exact hr.dom hp
    row := fun hp hg => (hr.row hp hg).mono (Ext.refl ρ) (by rw [hh])
    obj := fun hp hg => by rw [hh]; exact hr.obj hp hg }
theorem Par.mono {ρ ρ' : Rho} {h h' : H} {r r' : Nat} {L : Loc} {x : Row} (e : Ext ρ ρ') (hh : ∀ p y, x.par = some p → h.get p.1 = some (.row y) → ∃ y', h'.get p.1 = some (.row y') ∧ y'.c.length = y.c.length) (q : Par ρ h r L x r') : Par ρ' h' r L x r' := by
  obtain ⟨p, o, Lp, y, h1, h2, h3, h4, h5, h6, h7, h8⟩ := q
  obtain ⟨y', g1, g2⟩ := hh _ y h1 h6
  exact ⟨p, o, Lp, y', h1, h2, h3, e _ _ h4, h5, g1, h7, fun i hi => by rw [g2]; exact h8 i hi⟩
/-- A block of the abstract memory alone: not yet laid. -/
theorem HR.push {w0 : World} {ρ : Rho} {h : H} {w : World} (hr : HR w0 ρ h w) (b : AB) (hb : ∀ x, b = .row x → x.par = none) : HR w0 ρ (h.push b) w := by
  have key : ∀ {r}, r ≠ h.next → (h.push b).get r = h.get r := fun hne => by rw [H.get_push, if_neg hne]
  have keyN : (h.push b).get h.next = some b := by rw [H.get_push, if_pos rfl]
  have ne : ∀ {r L}, ρ r = some L → r ≠ h.next := fun hp => by have := (hr.dom hp).1; omega
  have rows : ∀ {r x}, (h.push b).get r = some (.row x) → x.par ≠ none → h.get r = some (.row x) := fun {r x} hg hx => by
    by_cases hne : r = h.next
    · subst hne; rw [keyN] at hg; exact absurd (hb x (Option.some.inj hg)) hx
    · rw [← key hne]; exact hg
  have mem : ∀ {r L x r'}, Par ρ h r L x r' → Par ρ (h.push b) r L x r' := fun q => q.mono (Ext.refl ρ) fun p y hp hy => ⟨y, by rw [key (by have := hr.top hy; omega)]; exact hy, rfl⟩
  refine { bel := hr.bel, dom := fun hp => ⟨by have := (hr.dom hp).1; rw [H.next_push]; omega, (hr.dom hp).2⟩, low := fun hp hl => by rw [key (ne hp)]; exact hr.low hp hl, has := fun hp => by rw [key (ne hp)]; exact hr.has hp, top := ?_, row := ?_, obj := ?_, sep := ?_, sepo := ?_, uniq := ?_, psp := ?_, plt := ?_ }
  · intro r c hg
    rw [H.next_push]
    by_cases hne : r = h.next
    · omega
    · rw [key hne] at hg; have := hr.top hg; omega
  · intro r L x hp hg; rw [key (ne hp)] at hg; exact hr.row hp hg
  · intro r L o hp hg; rw [key (ne hp)] at hg; exact hr.obj hp hg
  · intro r L x r' L' x' hp hp' hg hg' hlt hbb
    rw [key (ne hp)] at hg; rw [key (ne hp')] at hg'
    have s := hr.sep hp hp' hg hg' hlt hbb
    exact ⟨s.sp, s.fin, s.cut, fun h1 h2 => mem (s.par h1 h2)⟩
  · intro r L r' L' o hp hp' hg hbb; rw [key (ne hp)] at hg; exact hr.sepo hp hp' hg hbb
  · intro r r' x x' p o o' hg hg' hx hx'
    exact hr.uniq (rows hg (by rw [hx]; simp)) (rows hg' (by rw [hx']; simp)) hx hx'
  · intro r x p o y hg hx hy
    have hg' := rows hg (by rw [hx]; simp)
    have := hr.plt hg' hx
    have := hr.top hg'
    rw [key (by omega)] at hy
    exact hr.psp hg' hx hy
  · intro r x p o hg hx; exact hr.plt (rows hg (by rw [hx]; simp)) hx
theorem alloc_old (w : World) (o : Obj) {k : Nat} (h : k < w.heap.size) : (w.alloc o).heap[k]? = w.heap[k]? := Below.heap_alloc w o k h
theorem alloc_new (w : World) (o : Obj) : (w.alloc o).heap[w.heap.size]? = some o := by show (w.heap.push o)[w.heap.size]? = some o; simp
theorem alloc_size (w : World) (o : Obj) : (w.alloc o).heap.size = w.heap.size + 1 := by show (w.heap.push o).size = _; simp
/-- A row of the abstract memory is laid. -/
theorem HR.birth {w0 : World} {ρ : Rho} {h : H} {w : World} (hr : HR w0 ρ h w) {r : Nat} {x : Row} {c' : Array Value} (hn : r < h.next) (hρ : ρ r = none) (hg : h.get r = some (.row x))
    (ho : allOk x.c = true) (hl : x.c.length ≤ c'.size) (hv : VL ρ x.c (c'.toList.take x.c.length)) (hex : x.st = 0 → x.c.length = c'.size) (fr : Nat × Nat) (hfr : ∀ j, j < c'.size → ¬ (fr.1 ≤ j ∧ j < fr.2)) :
    HR w0 (upd ρ r ⟨w.heap.size, 0, x.st, c'.size⟩) h (w.alloc (.cells c' x.e fr)) := by
  have e := upd_ext (L := ⟨w.heap.size, 0, x.st, c'.size⟩) hρ
  have old : ∀ {i L}, upd ρ r ⟨w.heap.size, 0, x.st, c'.size⟩ i = some L → i ≠ r → ρ i = some L ∧ L.b < w.heap.size := by
    intro i L hp hne
    rw [upd_other _ _ hne] at hp
    exact ⟨hp, (hr.dom hp).2⟩
  have new : ∀ {L}, upd ρ r ⟨w.heap.size, 0, x.st, c'.size⟩ r = some L → L = ⟨w.heap.size, 0, x.st, c'.size⟩ := by
    intro L hp; rw [upd_same] at hp; exact (Option.some.inj hp).symm
  have hB := hr.bel.size
  refine { hr with bel := hr.bel.alloc (by omega) _, dom := ?_, low := ?_, has := ?_, row := ?_, obj := ?_, sep := ?_, sepo := ?_ }
  · intro i L hp
    by_cases hi : i = r
    · subst hi; rw [new hp]; exact ⟨hn, by rw [alloc_size]; simp⟩
    · have := hr.dom (old hp hi).1; exact ⟨this.1, by rw [alloc_size]; omega⟩
  · intro i L hp hl
    by_cases hi : i = r
    · subst hi; rw [new hp] at hl; simp at hl; omega
    · exact hr.low (old hp hi).1 hl
  · intro i L hp
    by_cases hi : i = r
    · subst hi; exact ⟨_, hg⟩
    · exact hr.has (old hp hi).1
  · intro i L y hp hy
    by_cases hi : i = r
    · subst hi
      rw [hg] at hy; cases hy
      rw [new hp]
      refine ⟨⟨c', fr, alloc_new w _, rfl, fun _ => hfr, fun j v hj => ⟨allOk_mem ho v (List.mem_of_getElem? hj), ?_⟩⟩, .inr (by simpa using hl), rfl, fun hh => .inr ⟨rfl, hex hh⟩⟩
      obtain ⟨v', h1, h2⟩ := hv.get hj
      refine ⟨v', ?_, h2.mono e⟩
      rw [List.getElem?_take] at h1
      split at h1
      · simpa using h1
      · cases h1
    · obtain ⟨h1, h2⟩ := old hp hi
      exact (hr.row h1 hy).mono e (alloc_old w _ h2)
  · intro i L o hp hy
    by_cases hi : i = r
    · subst hi; rw [hg] at hy; cases hy
    · obtain ⟨h1, h2⟩ := old hp hi
      obtain ⟨h3, o', h4, h5⟩ := hr.obj h1 hy
      exact ⟨h3, o', by rw [alloc_old w _ h2]; exact h4, h5.mono e⟩
  · intro i L y i' L' y' hp hp' hy hy' hlt hb
    by_cases hi : i = r
    · subst hi
      have := (old hp' (by omega)).2
      rw [new hp] at hb
      simp at hb; omega
    · by_cases hi' : i' = r
      · subst hi'
        have := (old hp hi).2
        rw [new hp'] at hb
        simp at hb; omega
      · have s := hr.sep (old hp hi).1 (old hp' hi').1 hy hy' hlt hb
        exact ⟨s.sp, s.fin, s.cut, fun h1 h2 => (s.par h1 h2).mono e fun p y _ hy => ⟨y, hy, rfl⟩⟩
  · intro i L i' L' o hp hp' hy hb
    by_cases hi : i = r
    · subst hi; rw [hg] at hy; cases hy
    · by_cases hi' : i' = r
      · subst hi'
        have := (old hp hi).2
        rw [new hp'] at hb
        simp at hb; omega
      · exact hr.sepo (old hp hi).1 (old hp' hi').1 hy hb
/-- An object of the abstract memory is laid. -/
theorem HR.birthObj {w0 : World} {ρ : Rho} {h : H} {w : World} (hr : HR w0 ρ h w) {r : Nat} {o : AObj} {o' : Obj} (hn : r < h.next) (hρ : ρ r = none) (hg : h.get r = some (.obj o))
    (hv : OR (upd ρ r ⟨w.heap.size, 0, 0, 0⟩) o o') :
    HR w0 (upd ρ r ⟨w.heap.size, 0, 0, 0⟩) h (w.alloc o') := by
  have e := upd_ext (L := ⟨w.heap.size, 0, 0, 0⟩) hρ
  have old : ∀ {i L}, upd ρ r ⟨w.heap.size, 0, 0, 0⟩ i = some L → i ≠ r → ρ i = some L ∧ L.b < w.heap.size := by
    intro i L hp hne
    rw [upd_other _ _ hne] at hp
    exact ⟨hp, (hr.dom hp).2⟩
  have new : ∀ {L}, upd ρ r ⟨w.heap.size, 0, 0, 0⟩ r = some L → L = ⟨w.heap.size, 0, 0, 0⟩ := by
    intro L hp; rw [upd_same] at hp; exact (Option.some.inj hp).symm
  have hB := hr.bel.size
  refine { hr with bel := hr.bel.alloc (by omega) _, dom := ?_, low := ?_, has := ?_, row := ?_, obj := ?_, sep := ?_, sepo := ?_ }
  · intro i L hp
    by_cases hi : i = r
    · subst hi; rw [new hp]; exact ⟨hn, by rw [alloc_size]; simp⟩
    · have := hr.dom (old hp hi).1; exact ⟨this.1, by rw [alloc_size]; omega⟩
  · intro i L hp hl
    by_cases hi : i = r
    · subst hi; rw [new hp] at hl; simp at hl; omega
    · exact hr.low (old hp hi).1 hl
  · intro i L hp
    by_cases hi : i = r
    · subst hi; exact ⟨_, hg⟩
    · exact hr.has (old hp hi).1
  · intro i L y hp hy
    by_cases hi : i = r
    · subst hi; rw [hg] at hy; cases hy
    · obtain ⟨h1, h2⟩ := old hp hi
      exact (hr.row h1 hy).mono e (alloc_old w _ h2)
  · intro i L o2 hp hy
    by_cases hi : i = r
    · subst hi
      rw [hg] at hy; cases hy
      rw [new hp]
      exact ⟨rfl, o', alloc_new w _, hv⟩
    · obtain ⟨h1, h2⟩ := old hp hi
      obtain ⟨h3, o', h4, h5⟩ := hr.obj h1 hy
      exact ⟨h3, o', by rw [alloc_old w _ h2]; exact h4, h5.mono e⟩
  · intro i L y i' L' y' hp hp' hy hy' hlt hb
    by_cases hi : i = r
    · subst hi; rw [hg] at hy; cases hy
    · by_cases hi' : i' = r
      · subst hi'; rw [hg] at hy'; cases hy'
      · have s := hr.sep (old hp hi).1 (old hp' hi').1 hy hy' hlt hb
        exact ⟨s.sp, s.fin, s.cut, fun h1 h2 => (s.par h1 h2).mono e fun p y _ hy => ⟨y, hy, rfl⟩⟩
  · intro i L i' L' o2 hp hp' hy hb
    by_cases hi : i = r
    · subst hi
      by_cases hi' : i' = i
      · exact hi'.symm
      · have := (old hp' hi').2
        rw [new hp] at hb
        simp at hb; omega
    · by_cases hi' : i' = r
      · subst hi'
        have := (old hp hi).2
        rw [new hp'] at hb
        simp at hb; omega
      · exact hr.sepo (old hp hi).1 (old hp' hi').1 hy hb
theorem rowAt_get {h : H} {r : Nat} {x : Row} (hx : rowAt h r = some x) : h.get r = some (.row x) := by
  unfold rowAt at hx
  split at hx
  · rename_i y hy; cases hx; exact hy
  · cases hx
/-- A row of the abstract memory takes its link and its shared part anew (its cells stay). -/
theorem HR.relink {w0 : World} {ρ : Rho} {h : H} {w : World} (hr : HR w0 ρ h w) {r : Nat} {L : Loc} {x : Row} (hp : ρ r = some L) (hg : h.get r = some (.row x)) (hsp : x.sp = false) (hpar : x.par = none) :
    HR w0 ρ (h.put r (.row { x with k := 0 })) w := by
  have gR : (h.put r (.row { x with k := 0 })).get r = some (.row { x with k := 0 }) := by rw [H.get_put, if_pos rfl]
  have gO : ∀ {j}, j ≠ r → (h.put r (.row { x with k := 0 })).get j = h.get j := fun hj => by rw [H.get_put, if_neg hj]
  have rows : ∀ {i y}, (h.put r (.row { x with k := 0 })).get i = some (.row y) → ∃ y0, h.get i = some (.row y0) ∧ y.par = y0.par ∧ y.c = y0.c ∧ y.sp = y0.sp := fun {i y} q => by
    by_cases hi : i = r
    · subst hi; rw [gR] at q; cases q; exact ⟨x, hg, rfl, rfl, rfl⟩
    · rw [gO hi] at q; exact ⟨y, q, rfl, rfl, rfl⟩
  have fwd : ∀ {i y}, h.get i = some (.row y) → ∃ y', (h.put r (.row { x with k := 0 })).get i = some (.row y') ∧ y'.c.length = y.c.length := fun {i y} q => by
    by_cases hi : i = r
    · subst hi; rw [hg] at q; cases q; exact ⟨_, gR, rfl⟩
    · exact ⟨y, by rw [gO hi]; exact q, rfl⟩
  have mem : ∀ {i M y j}, Par ρ h i M y j → Par ρ (h.put r (.row { x with k := 0 })) i M y j := fun q => q.mono (Ext.refl ρ) fun p y _ hy => fwd hy
  refine { hr with low := ?_, has := ?_, top := ?_, row := ?_, obj := ?_, sep := ?_, sepo := ?_, uniq := ?_, psp := ?_, plt := ?_ }
  · intro i M q hl
    obtain ⟨y, h1, h2⟩ := hr.low q hl
    by_cases hi : i = r
    · subst hi; rw [hg] at h1; cases h1; rw [hsp] at h2; cases h2
    · exact ⟨y, by rw [gO hi]; exact h1, h2⟩
  · intro i M q
    by_cases hi : i = r
    · subst hi; exact ⟨_, gR⟩
    · rw [gO hi]; exact hr.has q
  · intro i c q
    by_cases hi : i = r
    · subst hi; exact hr.top hg
    · rw [gO hi] at q; exact hr.top q
  · intro i M y q g
    by_cases hi : i = r
    · subst hi
      rw [gR] at g; cases g
      have := hr.row q hg
      exact ⟨this.row, this.len, this.st, this.exact⟩
    · rw [gO hi] at g; exact hr.row q g
  · intro i M y q g
    by_cases hi : i = r
    · subst hi; rw [gR] at g; cases g
    · rw [gO hi] at g; exact hr.obj q g
  · intro i M y i' M' y' q q' g g' hlt hb
    by_cases hi : i = r
    · subst hi
      rw [gR] at g; cases g
      rw [gO (by omega)] at g'
      have s := hr.sep q q' hg g' hlt hb
      have no : y'.c ≠ [] → False := fun hne => by
        obtain ⟨p, o, _, _, h1, _⟩ := s.par (.inl hsp) hne
        rw [hpar] at h1; cases h1
      exact ⟨s.sp, fun _ hne => (no hne).elim, fun a b ha hb' he => (no (by intro hh; rw [hh] at hb'; simp at hb')).elim, fun _ hne => (no hne).elim⟩
    · rw [gO hi] at g
      obtain ⟨y0, h1, h2, h3, h4⟩ := rows g'
      have s := hr.sep q q' g h1 hlt hb
      refine ⟨by rw [h4]; exact s.sp, by rw [h3]; exact s.fin, by rw [h3]; exact s.cut, by rw [h3]; exact fun a b => mem (s.par a b)⟩
  · intro i M i' M' y q q' g hb
    by_cases hi : i = r
    · subst hi; rw [gR] at g; cases g
    · rw [gO hi] at g; exact hr.sepo q q' g hb
  · intro i i' y y' p o o' g g' hx hx'
    obtain ⟨y0, h1, h2, _⟩ := rows g
    obtain ⟨y1, k1, k2, _⟩ := rows g'
    exact hr.uniq h1 k1 (by rw [← h2]; exact hx) (by rw [← k2]; exact hx')
  · intro i y p o z g hx hz
    obtain ⟨y0, h1, h2, _⟩ := rows g
    obtain ⟨z0, k1, k2, k3, k4⟩ := rows hz
    rw [k4]
    exact hr.psp h1 (by rw [← h2]; exact hx) k1
  · intro i y p o g hx
    obtain ⟨y0, h1, h2, _⟩ := rows g
    exact hr.plt h1 (by rw [← h2]; exact hx)
end Go.Ev
end

section
set_option linter.unusedVariables false
set_option linter.unusedSimpArgs false
namespace Go.Ev
open Go Go.RowKit
/-- The row that a row grew out of is given up. -/
theorem HR.kill {w0 : World} {ρ : Rho} {h : H} {w : World} (hr : HR w0 ρ h w) {r p o : Nat} {L : Loc} {x y : Row} (hp : ρ r = some L) (hg : h.get r = some (.row x)) (hsp : x.sp = false) (hpar : x.par = some (p, o)) (hk : 0 < x.k) (gp : h.get p = some (.row y)) :
    HR w0 ρ ((h.put p (.row { y with c := [], sp := true, par := none })).put r (.row { x with k := Nat.min x.k (y.k - o), par := upPar y o })) w := by
  have hpr : p < r := hr.plt hg hpar
  generalize hx2 : ({ x with k := Nat.min x.k (y.k - o), par := upPar y o } : Row) = x2
  generalize hy2 : ({ y with c := [], sp := true, par := none } : Row) = y2
  have x2c : x2.c = x.c := by rw [← hx2]
  have x2sp : x2.sp = false := by rw [← hx2]; exact hsp
  have x2k : x2.k = Nat.min x.k (y.k - o) := by rw [← hx2]
  have x2p : x2.par = upPar y o := by rw [← hx2]
  have y2c : y2.c = [] := by rw [← hy2]
  have y2sp : y2.sp = true := by rw [← hy2]
  have y2p : y2.par = none := by rw [← hy2]
  generalize hh2 : (h.put p (.row y2)).put r (.row x2) = h2
  have gR : h2.get r = some (.row x2) := by rw [← hh2, H.get_put, if_pos rfl]
  have gP : h2.get p = some (.row y2) := by rw [← hh2, H.get_put, if_neg (by omega), H.get_put, if_pos rfl]
  have gO : ∀ {j}, j ≠ r → j ≠ p → h2.get j = h.get j := fun h1 h3 => by rw [← hh2, H.get_put, if_neg h1, H.get_put, if_neg h3]
  have nx : h2.next = h.next := by rw [← hh2]; rfl
  -- a link of the new memory
  have qOf : ∀ {q o'}, x2.par = some (q, o') → ∃ o1, y.par = some (q, o1) ∧ o' = o1 + o := by
    intro q o' hq
    rw [x2p] at hq
    unfold upPar at hq
    cases hyp : y.par with
    | none => rw [hyp] at hq; cases hq
    | some z => obtain ⟨q1, o1⟩ := z; rw [hyp] at hq; cases hq; exact ⟨o1, rfl, rfl⟩
  have np : ∀ {i z p1 o1}, h.get i = some (.row z) → i ≠ r → z.par = some (p1, o1) → p1 ≠ p ∧ p1 ≠ r := by
    intro i z p1 o1 g hi hz
    refine ⟨fun he => hi ?_, fun he => ?_⟩
    · subst he; exact hr.uniq g hg hz hpar
    · subst he; have := hr.psp g hz hg; rw [hsp] at this; cases this
  refine { hr with dom := fun q => by rw [nx]; exact hr.dom q, low := ?_, has := ?_, top := ?_, row := ?_, obj := ?_, sep := ?_, sepo := ?_, uniq := ?_, psp := ?_, plt := ?_ }
  · intro i M q hl
    obtain ⟨z, h1, h3⟩ := hr.low q hl
    by_cases hi : i = r
    · subst hi; rw [hg] at h1; cases h1; rw [hsp] at h3; cases h3
    · by_cases hi' : i = p
      · subst hi'; exact ⟨_, gP, y2sp⟩
      · exact ⟨z, by rw [gO hi hi']; exact h1, h3⟩
  · intro i M q
    by_cases hi : i = r
    · subst hi; exact ⟨_, gR⟩
    · by_cases hi' : i = p
      · subst hi'; exact ⟨_, gP⟩
      · rw [gO hi hi']; exact hr.has q
  · intro i c q
    rw [nx]
    by_cases hi : i = r
    · subst hi; exact hr.top hg
    · by_cases hi' : i = p
      · subst hi'; exact hr.top gp
      · rw [gO hi hi'] at q; exact hr.top q
  · intro i M z q g
    by_cases hi : i = r
    · subst hi
      rw [gR] at g; cases g
      have s := hr.row q hg
      rw [← hx2]
      exact ⟨s.row, s.len, s.st, s.exact⟩
    · by_cases hi' : i = p
      · subst hi'
        rw [gP] at g; cases g
        obtain ⟨⟨c', fr, k1, k2, k3, k4⟩, k5, k6, k7⟩ := hr.row q gp
        rw [← hy2]
        exact ⟨⟨c', fr, k1, k2, fun hh => (by cases hh), fun j v hj => (by simp at hj)⟩, .inl rfl, k6, fun _ => .inl rfl⟩
      · rw [gO hi hi'] at g; exact hr.row q g
  · intro i M z q g
    by_cases hi : i = r
    · subst hi; rw [gR] at g; cases g
    · by_cases hi' : i = p
      · subst hi'; rw [gP] at g; cases g
      · rw [gO hi hi'] at g; exact hr.obj q g
  · intro i M z i' M' z' q q' g g' hlt hb
    by_cases hi : i = r
    · subst hi
      rw [gR] at g; cases g
      rw [hp] at q; cases q
      by_cases hi' : i' = p
      · subst hi'
        rw [gP] at g'; cases g'
        exact ⟨y2sp, fun _ hne => absurd y2c hne, fun a b' _ hb' => by rw [y2c] at hb'; simp at hb', fun _ hne => absurd y2c hne⟩
      · rw [gO (by omega) hi'] at g'
        have s := hr.sep hp q' hg g' hlt hb
        -- the older row lies ahead of p
        have deep : z'.c ≠ [] → ∃ Lp, ρ p = some Lp ∧ Lp.b = L.b ∧ L.d = Lp.d + o ∧ (∀ a, a < x.k → o + a < y.c.length) ∧ i' < p := by
          intro hne
          obtain ⟨p0, o0, Lp, y0, h1, h3, h4, h5, h6, h7, h8, h9⟩ := s.par (.inl hsp) hne
          rw [hpar] at h1; cases h1
          rw [gp] at h7; cases h7
          exact ⟨Lp, h5, h6, h8, h9, by omega⟩
        refine ⟨s.sp, fun _ hne => by rw [x2c]; exact s.fin hsp hne, fun a b' ha hb' he => ?_, fun _ hne => ?_⟩
        · have hne : z'.c ≠ [] := by intro hh; rw [hh] at hb'; simp at hb'
          obtain ⟨Lp, h1, h3, h4, h5, h6⟩ := deep hne
          have hak := s.cut a b' (by rw [← x2c]; exact ha) hb' he
          have := (hr.sep h1 q' gp g' h6 (by rw [h3]; exact hb)).cut (o + a) b' (h5 a hak) hb' (by omega)
          rw [x2k]
          exact Nat.lt_min.2 ⟨hak, by omega⟩
        · obtain ⟨Lp, h1, h3, h4, h5, h6⟩ := deep hne
          have hyc : y.c ≠ [] := by intro hh; have := h5 0 hk; rw [hh] at this; simp at this
          obtain ⟨q1, o1, Lq, zq, k1, k2, k3, k4, k5, k6, k7, k8⟩ := (hr.sep h1 q' gp g' h6 (by rw [h3]; exact hb)).par (.inr hyc) hne
          refine ⟨q1, o1 + o, Lq, zq, by rw [x2p]; simp [upPar, k1], k2, by omega, k4, by rw [k5, h3], by rw [gO (by omega) (by omega)]; exact k6, by omega, fun a ha => ?_⟩
          rw [x2k] at ha
          have := Nat.lt_min.1 ha
          have := k8 (o + a) (by omega)
          omega
    · by_cases hip : i = p
      · subst hip
        rw [gP] at g; cases g
        rw [gO (by omega) (by omega)] at g'
        have s := hr.sep q q' gp g' hlt hb
        exact ⟨s.sp, fun hh => (by rw [y2sp] at hh; cases hh), fun a b' ha => (by rw [y2c] at ha; simp at ha), fun hh => (by rcases hh with hh | hh; (rw [y2sp] at hh; cases hh); exact absurd y2c hh)⟩
      · rw [gO hi hip] at g
        by_cases hi' : i' = r
        · subst hi'
          have := (hr.sep q q' g hg hlt hb).sp
          rw [hsp] at this; cases this
        · by_cases hi'p : i' = p
          · subst hi'p
            rw [gP] at g'; cases g'
            exact ⟨y2sp, fun _ hne => absurd y2c hne, fun a b' _ hb' => by rw [y2c] at hb'; simp at hb', fun _ hne => absurd y2c hne⟩
          · rw [gO hi' hi'p] at g'
            have s := hr.sep q q' g g' hlt hb
            refine ⟨s.sp, s.fin, s.cut, fun a c => (s.par a c).mono (Ext.refl ρ) fun pp yy h1 h3 => ?_⟩
            obtain ⟨p1, o1⟩ := pp
            have := np g hi h1
            exact ⟨yy, by rw [gO this.2 this.1]; exact h3, rfl⟩
  · intro i M i' M' z q q' g hb
    by_cases hi : i = r
    · subst hi; rw [gR] at g; cases g
    · by_cases hi' : i = p
      · subst hi'; rw [gP] at g; cases g
      · rw [gO hi hi'] at g; exact hr.sepo q q' g hb
  · intro i i' z z' P o1 o2 g g' hx hx'
    by_cases hi : i = r
    · subst hi
      rw [gR] at g; cases g
      obtain ⟨o3, h1, _⟩ := qOf hx
      by_cases hi' : i' = i
      · exact hi'.symm
      · by_cases hi'p : i' = p
        · subst hi'p; rw [gP] at g'; cases g'; rw [y2p] at hx'; cases hx'
        · rw [gO hi' hi'p] at g'
          exact absurd (hr.uniq g' gp hx' h1) hi'p
    · by_cases hip : i = p
      · subst hip; rw [gP] at g; cases g; rw [y2p] at hx; cases hx
      · rw [gO hi hip] at g
        by_cases hi' : i' = r
        · subst hi'
          rw [gR] at g'; cases g'
          obtain ⟨o3, h1, _⟩ := qOf hx'
          exact absurd (hr.uniq g gp hx h1) hip
        · by_cases hi'p : i' = p
          · subst hi'p; rw [gP] at g'; cases g'; rw [y2p] at hx'; cases hx'
          · rw [gO hi' hi'p] at g'
            exact hr.uniq g g' hx hx'
  · intro i z P o1 t g hx ht
    by_cases hi : i = r
    · subst hi
      rw [gR] at g; cases g
      obtain ⟨o3, h1, _⟩ := qOf hx
      have h3 := hr.plt gp h1
      rw [gO (by omega) (by omega)] at ht
      exact hr.psp gp h1 ht
    · by_cases hip : i = p
      · subst hip; rw [gP] at g; cases g; rw [y2p] at hx; cases hx
      · rw [gO hi hip] at g
        have := np g hi hx
        rw [gO this.2 this.1] at ht
        exact hr.psp g hx ht
  · intro i z P o1 g hx
    by_cases hi : i = r
    · subst hi
      rw [gR] at g; cases g
      obtain ⟨o3, h1, _⟩ := qOf hx
      have := hr.plt gp h1
      omega
    · by_cases hip : i = p
      · subst hip; rw [gP] at g; cases g; rw [y2p] at hx; cases hx
      · rw [gO hi hip] at g; exact hr.plt g hx
theorem HR.unshare {w0 : World} {ρ : Rho} {w : World} : ∀ (n : Nat) {h h2 : H} {r off : Nat} {L : Loc} {x x2 : Row}, HR w0 ρ h w → ρ r = some L → h.get r = some (.row x) → x.sp = false → Ev.unshare n h r x off = some (h2, x2) →
    HR w0 ρ h2 w ∧ h2.get r = some (.row x2) ∧ x2.k ≤ off ∧ x2.c = x.c ∧ x2.sp = false ∧ x2.e = x.e ∧ h2.next = h.next
  | 0, h, h2, r, off, L, x, x2, _, _, _, _, hu => by simp [Ev.unshare] at hu
  | n + 1, h, h2, r, off, L, x, x2, hr, hp, hg, hsp, hu => by
    simp only [Ev.unshare] at hu
    split at hu
    · rename_i hk
      cases hu
      exact ⟨hr, hg, by simpa using hk, rfl, hsp, rfl, rfl⟩
    · rename_i hk
      have hk' := ble_f hk
      split at hu
      · rename_i hpar
        obtain ⟨a1, a2, a3, a4, a5, a6, a7⟩ := HR.unshare n (hr.relink hp hg hsp hpar) hp (by rw [H.get_put, if_pos rfl]) (by exact hsp) hu
        exact ⟨a1, a2, a3, a4, a5, a6, by rw [a7]; rfl⟩
      · rename_i p o hpar
        split at hu
        · rename_i y hy hne
          obtain ⟨a1, a2, a3, a4, a5, a6, a7⟩ := HR.unshare n (hr.kill hp hg hsp hpar (by omega) (rowAt_get hy)) hp (by rw [H.get_put, if_pos rfl]) (by exact hsp) hu
          exact ⟨a1, a2, a3, a4, a5, a6, by rw [a7]; rfl⟩
        · cases hu
theorem seg_get (l vs : List Value) (p : Nat) (h : p + vs.length ≤ l.length) (k : Nat) :
    (l.take p ++ vs ++ l.drop (p + vs.length))[k]? = if p ≤ k ∧ k < p + vs.length then vs[k - p]? else l[k]? := by
  by_cases h1 : k < p
  · rw [if_neg (by omega), List.append_assoc, List.getElem?_append_left (by simp; omega), List.getElem?_take, if_pos h1]
  · by_cases h2 : k < p + vs.length
    · rw [if_pos (by omega), List.append_assoc, List.getElem?_append_right (by simp; omega), List.getElem?_append_left (by simp; omega)]
      congr 1; simp; omega
    · rw [if_neg (by omega), List.getElem?_append_right (by simp; omega), List.getElem?_drop]
      congr 1; simp; omega
theorem seg_len (l vs : List Value) (p : Nat) (h : p + vs.length ≤ l.length) : (l.take p ++ vs ++ l.drop (p + vs.length)).length = l.length := by
  simp; omega
theorem below_setRow {B : Nat} {a w : World} (h : Below B a w) {g : Nat} (hg : B ≤ g) (cs : Array Value) : Below B a (w.setRow g cs) :=
  h.trans ⟨rfl, rfl, rfl, by simp, fun k hk => setRow_other w g k cs (by omega)⟩
/-- Cells that are stored into a row whose cells there no string shares. -/
theorem run_storeCells_free (P : Program) (g o : Nat) (t : TypeId) (fz : Nat × Nat) : ∀ (vs : List Value) (i : Nat) (cur : Array Value) (w : World), w.heap[g]? = some (.cells cur t fz) → (∀ j, j < cur.size → ¬ (fz.1 ≤ j ∧ j < fz.2)) → o + i + vs.length ≤ cur.size → (∀ v ∈ vs, v.oneCell' = true) →
    (storeCells ⟨g, o, none⟩ vs i).run P w = .ok () (w.setRow g (cur.toList.take (o + i) ++ vs ++ cur.toList.drop (o + i + vs.length)).toArray)
  | [], i, cur, w, hg, _, _, _ => by
    simp only [storeCells, List.append_nil, List.length_nil, Nat.add_zero, List.take_append_drop, Array.toArray_toList]
    rw [setRow_self w g cur t fz hg]
    rfl
  | v :: rest, i, cur, w, hg, hfz, hl, h1 => by
    have hi : o + i < cur.size := by simp at hl; omega
    have hadd : (⟨g, o, none⟩ : Addr).add i = ⟨g, o + i, none⟩ := by unfold Addr.add; split <;> simp_all
    have hcell : w.cell? ⟨g, o + i, none⟩ = some cur[o + i] := by simp [World.cell?, hg, hi]
    have hfro : w.frozen? ⟨g, o + i, none⟩ = false := by
      have := hfz (o + i) hi
      obtain ⟨lo, hi'⟩ := fz
      simp only [World.frozen?, hg, Bool.and_eq_false_iff, decide_eq_false_iff_not]
      simp only at this
      omega
    have hst : (store ((⟨g, o, none⟩ : Addr).add i) v).run P w = .ok () (w.setRow g (cur.setIfInBounds (o + i) v)) := by
      rw [hadd, run_store P w _ v _ (h1 v (by simp)), hcell]
      simp [hfro, setCell_eq_setRow w g (o + i) cur t fz v hg]
    have ih := run_storeCells_free P g o t fz rest (i + 1) (cur.setIfInBounds (o + i) v) (w.setRow g (cur.setIfInBounds (o + i) v)) (setRow_heap w g cur _ t _ hg) (by simpa using hfz) (by simp at hl ⊢; omega) (fun x hx => h1 x (by simp [hx]))
    simp only [storeCells, Sem.run_bind, hst, Result.andThen_ok, ih, setRow_setRow]
    congr 3
    have e := list_seg_step cur.toList (o + i) v rest (by simp at hl ⊢; omega)
    simpa [Array.toList_setIfInBounds, Nat.add_assoc] using e
/-- A row that may be written is no old one. -/
theorem HR.own {w0 : World} {ρ : Rho} {h : H} {w : World} (hr : HR w0 ρ h w) {r : Nat} {L : Loc} {x : Row} (hp : ρ r = some L) (hg : h.get r = some (.row x)) (hsp : x.sp = false) : w0.heap.size ≤ L.b := by
  rcases Nat.lt_or_ge L.b w0.heap.size with h1 | h1
  · obtain ⟨y, h2, h3⟩ := hr.low hp h1
    rw [hg] at h2; cases h2
    rw [hsp] at h3; cases h3
  · exact h1
/-- Cells of a row are written, where it shares none. -/
theorem HR.write {w0 : World} {ρ : Rho} {h : H} {w : World} (P : Program) (hr : HR w0 ρ h w) {r off : Nat} {L : Loc} {x : Row} {l l' c : List Value} (hp : ρ r = some L) (hgx : h.get r = some (.row x)) (hsp : x.sp = false) (hk : x.k ≤ off) (hall : allOk l = true)
    (hc : lput x.c off l = some c) (hv : VL ρ l l') :
    ∃ w', (storeCells ⟨L.b, L.d + off, none⟩ l').run P w = .ok () w' ∧ HR w0 ρ (h.put r (.row { x with c })) w' := by
  obtain ⟨hput, rfl⟩ := lput_eq _ _ _ hc
  obtain ⟨⟨c', fr, hrow, hE, hfr, hcell⟩, hlen, hst, hex⟩ := hr.row hp hgx
  have hll := hv.length
  have gA : ∀ {cc : List Value}, (h.put r (.row { x with c := cc })).get r = some (.row { x with c := cc }) := by intro cc; rw [H.get_put, if_pos rfl]
  have gO : ∀ {cc : List Value} {j}, j ≠ r → (h.put r (.row { x with c := cc })).get j = h.get j := fun hj => by rw [H.get_put, if_neg hj]
  by_cases hnil : l = []
  · subst hnil
    have : l' = [] := by simpa using hll.symm
    subst this
    refine ⟨w, rfl, ?_⟩
    have hsame : ({ x with c := x.c.take off ++ [] ++ x.c.drop (off + ([] : List Value).length) } : Row) = x := by simp
    have hget : ∀ j, (h.put r (.row { x with c := x.c.take off ++ [] ++ x.c.drop (off + ([] : List Value).length) })).get j = h.get j := by
      intro j
      rw [hsame, H.get_put]
      split
      · rename_i hj; rw [hj, hgx]
      · rfl
    exact { bel := hr.bel, dom := hr.dom, low := fun q g => by rw [hget]; exact hr.low q g, has := fun q => by rw [hget]; exact hr.has q, top := fun g => hr.top (by rw [← hget]; exact g), row := fun q g => hr.row q (by rw [← hget]; exact g), obj := fun q g => hr.obj q (by rw [← hget]; exact g),
            sep := fun q q' g g' hlt hb => by
              have s := hr.sep q q' (by rw [← hget]; exact g) (by rw [← hget]; exact g') hlt hb
              exact ⟨s.sp, s.fin, s.cut, fun a b => (s.par a b).mono (Ext.refl ρ) fun p y _ hy => ⟨y, by rw [hget]; exact hy, rfl⟩⟩,
            sepo := fun q q' g => hr.sepo q q' (by rw [← hget]; exact g), uniq := fun g g' => hr.uniq (by rw [← hget]; exact g) (by rw [← hget]; exact g'), psp := fun g hx hy => hr.psp (by rw [← hget]; exact g) hx (by rw [← hget]; exact hy), plt := fun g => hr.plt (by rw [← hget]; exact g) }
  have hpos : 0 < l.length := List.length_pos_iff.2 hnil
  have hxne : x.c ≠ [] := by intro hh; rw [hh, List.length_nil] at hput; omega
  have hlen' : L.d + x.c.length ≤ L.E := hlen.resolve_left hxne
  have hfr' := hfr hsp
  refine ⟨w.setRow L.b (c'.toList.take (L.d + off) ++ l' ++ c'.toList.drop (L.d + off + l'.length)).toArray, ?_, ?_⟩
  · have := run_storeCells_free P L.b (L.d + off) x.e fr l' 0 c' w hrow (by rw [hE]; exact hfr') (by omega) (hv.one hall)
    simpa using this
  have hfit : L.d + off + l'.length ≤ c'.toList.length := by simp; omega
  have hget : ∀ k, (c'.toList.take (L.d + off) ++ l' ++ c'.toList.drop (L.d + off + l'.length)).toArray[k]? = if L.d + off ≤ k ∧ k < L.d + off + l'.length then l'[k - (L.d + off)]? else c'[k]? := by
    intro k
    have := seg_get c'.toList l' (L.d + off) hfit k
    simpa using this
  have hsz : (c'.toList.take (L.d + off) ++ l' ++ c'.toList.drop (L.d + off + l'.length)).toArray.size = c'.size := by
    have := seg_len c'.toList l' (L.d + off) hfit
    simpa using this
  generalize hcc : (c'.toList.take (L.d + off) ++ l' ++ c'.toList.drop (L.d + off + l'.length)).toArray = cc at hget hsz
  have hhead : (w.setRow L.b cc).heap[L.b]? = some (.cells cc x.e fr) := setRow_heap w L.b c' cc x.e fr hrow
  have hB := hr.dom hp
  have hln : (x.c.take off ++ l ++ x.c.drop (off + l.length)).length = x.c.length := seg_len _ _ _ hput
  have hne2 : ∀ {P : Prop}, ((x.c.take off ++ l ++ x.c.drop (off + l.length)) ≠ [] → P) ↔ (x.c ≠ [] → P) := by
    intro P
    have : (x.c.take off ++ l ++ x.c.drop (off + l.length)) ≠ [] := by intro hh; rw [hh, List.length_nil] at hln; exact hxne (List.eq_nil_of_length_eq_zero hln.symm)
    exact ⟨fun q _ => q this, fun q _ => q hxne⟩
  generalize hx2 : x.c.take off ++ l ++ x.c.drop (off + l.length) = nc at hln hne2
  have hseg : ∀ k, nc[k]? = if off ≤ k ∧ k < off + l.length then l[k - off]? else x.c[k]? := by intro k; rw [← hx2]; exact seg_get _ _ _ hput k
  have fwd : ∀ {i y}, h.get i = some (.row y) → ∃ y', (h.put r (.row { x with c := nc })).get i = some (.row y') ∧ y'.c.length = y.c.length ∧ y'.sp = y.sp ∧ y'.par = y.par := fun {i y} q => by
    by_cases hi : i = r
    · subst hi; rw [hgx] at q; cases q; exact ⟨_, gA, hln, rfl, rfl⟩
    · exact ⟨y, by rw [gO hi]; exact q, rfl, rfl, rfl⟩
  have bwd : ∀ {i y}, (h.put r (.row { x with c := nc })).get i = some (.row y) → ∃ y0, h.get i = some (.row y0) ∧ y.c.length = y0.c.length ∧ y.sp = y0.sp ∧ y.par = y0.par ∧ y.k = y0.k ∧ (y.c = [] ↔ y0.c = []) := fun {i y} q => by
    by_cases hi : i = r
    · subst hi; rw [gA] at q; cases q
      exact ⟨x, hgx, hln, rfl, rfl, rfl, ⟨fun hh => List.eq_nil_of_length_eq_zero (by have h0 : nc = [] := hh; rw [← hln, h0]; rfl), fun hh => List.eq_nil_of_length_eq_zero (by show nc.length = 0; rw [hln, hh]; rfl)⟩⟩
    · rw [gO hi] at q; exact ⟨y, q, rfl, rfl, rfl, rfl, Iff.rfl⟩
  refine { hr with bel := below_setRow hr.bel (hr.own hp hgx hsp) _, dom := ?_, low := ?_, has := ?_, top := ?_, row := ?_, obj := ?_, sep := ?_, sepo := ?_, uniq := ?_, psp := ?_, plt := ?_ }
  · intro i M q; have := hr.dom q; exact ⟨this.1, by simpa using this.2⟩
  · intro i M q hl
    obtain ⟨y, h1, h2⟩ := hr.low q hl
    obtain ⟨y', h3, _, h4, _⟩ := fwd h1
    exact ⟨y', h3, by rw [h4]; exact h2⟩
  · intro i M q
    by_cases hi : i = r
    · subst hi; exact ⟨_, gA⟩
    · rw [gO hi]; exact hr.has q
  · intro i b q
    by_cases hi : i = r
    · subst hi; exact hr.top hgx
    · rw [gO hi] at q; exact hr.top q
  · intro i M y q g
    by_cases hi : i = r
    · subst hi
      rw [gA] at g; cases g
      rw [hp] at q; cases q
      refine ⟨⟨cc, fr, hhead, by rw [hsz, hE], fun _ => hfr', fun i v hi => ?_⟩, .inr (by rw [hln]; exact hlen'), hst, fun hh => .inr (by rw [hln]; exact (hex hh).resolve_left hxne)⟩
      have hi' : nc[i]? = some v := hi
      rw [hseg] at hi'
      rw [hget]
      by_cases hin : off ≤ i ∧ i < off + l.length
      · rw [if_pos hin] at hi'
        rw [if_pos (by omega)]
        obtain ⟨v', h1, h2⟩ := hv.get hi'
        exact ⟨allOk_mem hall v (List.mem_of_getElem? hi'), v', by rw [show L.d + i - (L.d + off) = i - off by omega]; exact h1, h2⟩
      · rw [if_neg hin] at hi'
        rw [if_neg (by omega)]
        exact hcell i v hi'
    · rw [gO hi] at g
      by_cases hb : M.b = L.b
      · obtain ⟨⟨c1, fr1, k1, k2, k3, k4⟩, g2, g3, g4⟩ := hr.row q g
        rw [hb, hrow] at k1
        obtain ⟨rfl, he, rfl⟩ : c' = c1 ∧ x.e = y.e ∧ fr = fr1 := by simpa using k1
        refine ⟨⟨cc, fr, by rw [hb, ← he]; exact hhead, by rw [hsz]; exact k2, k3, fun j v hj => ?_⟩, g2, g3, g4⟩
        obtain ⟨o1, v', o2, o3⟩ := k4 j v hj
        refine ⟨o1, v', ?_, o3⟩
        rw [hget, if_neg, o2]
        intro hin
        have hjl : j < y.c.length := (List.getElem?_eq_some_iff.1 hj).1
        rcases Nat.lt_or_ge i r with hlt | hge
        · have := (hr.sep hp q hgx g hlt hb.symm).cut (M.d + j - L.d) j (by omega) hjl (by omega)
          omega
        · have := (hr.sep q hp g hgx (by omega) hb).sp
          rw [hsp] at this; cases this
      · exact (hr.row q g).mono (Ext.refl ρ) (setRow_other w L.b M.b cc hb)
  · intro i M o q g
    by_cases hi : i = r
    · subst hi; rw [gA] at g; cases g
    · rw [gO hi] at g
      obtain ⟨h1, o', h2, h3⟩ := hr.obj q g
      refine ⟨h1, o', ?_, h3⟩
      rw [setRow_other w L.b M.b cc (fun hb => ?_)]
      · exact h2
      · rw [hb, hrow] at h2; cases h2; exact absurd rfl (h3.notCells _ _ _)
  · intro i M y i' M' y' q q' g g' hlt hb
    obtain ⟨y0, h1, h2, h3, h4, h5, h6⟩ := bwd g
    obtain ⟨z0, k1, k2, k3, k4, k5, k6⟩ := bwd g'
    have s := hr.sep q q' h1 k1 hlt hb
    refine ⟨by rw [k3]; exact s.sp, fun a b => by rw [h2, k2]; exact s.fin (by rw [← h3]; exact a) (fun hh => b (k6.2 hh)), fun a b ha hb' he => by rw [h5]; exact s.cut a b (by rw [← h2]; exact ha) (by rw [← k2]; exact hb') he, fun a b => ?_⟩
    obtain ⟨p, o, Lp, yp, p1, p2, p3, p4, p5, p6, p7, p8⟩ := s.par (a.imp (fun hh => by rw [← h3]; exact hh) (fun hh h' => hh (h6.2 h'))) (fun hh => b (k6.2 hh))
    obtain ⟨yp', q1, q2, _⟩ := fwd p6
    exact ⟨p, o, Lp, yp', by rw [h4]; exact p1, p2, p3, p4, p5, q1, p7, fun j hj => by rw [q2]; exact p8 j (by rw [← h5]; exact hj)⟩
  · intro i M i' M' o q q' g hb
    by_cases hi : i = r
    · subst hi; rw [gA] at g; cases g
    · rw [gO hi] at g; exact hr.sepo q q' g hb
  · intro i i' y y' p o o' g g' hx hx'
    obtain ⟨y0, h1, _, _, h4, _⟩ := bwd g
    obtain ⟨z0, k1, _, _, k4, _⟩ := bwd g'
    exact hr.uniq h1 k1 (by rw [← h4]; exact hx) (by rw [← k4]; exact hx')
  · intro i y p o z g hx hz
    obtain ⟨y0, h1, _, _, h4, _⟩ := bwd g
    obtain ⟨z0, k1, _, k3, _, _⟩ := bwd hz
    rw [k3]; exact hr.psp h1 (by rw [← h4]; exact hx) k1
  · intro i y p o g hx
    obtain ⟨y0, h1, _, _, h4, _⟩ := bwd g
    exact hr.plt h1 (by rw [← h4]; exact hx)
/-- What is stored. -/
theorem HR.store {w0 : World} {ρ : Rho} {h h' : H} {w : World} (P : Program) (hr : HR w0 ρ h w) {a : Addr} {L : Loc} {l l' : List Value} (hp : ρ a.block = some L) (hs : storeAs h a l = some h') (hv : VL ρ l l') :
    ∃ w', (storeCells ⟨L.b, L.d + a.off, none⟩ l').run P w = .ok () w' ∧ HR w0 ρ h' w' ∧ h'.next = h.next := by
  unfold storeAs at hs
  split at hs
  case h_2 => cases hs
  rename_i x hx
  split at hs
  case h_2 => cases hs
  rename_i h2 x2 hsp hall hun
  split at hs
  case h_2 => cases hs
  rename_i c hc
  cases hs
  obtain ⟨a1, a2, a3, a4, a5, a6, a7⟩ := HR.unshare 1000 hr hp (rowAt_get hx) hsp hun
  obtain ⟨w', b1, b2⟩ := a1.write P hp a2 a5 a3 hall hc hv
  exact ⟨w', b1, b2, by rw [← a7]; rfl⟩
end Go.Ev
end

section
set_option linter.unusedVariables false
set_option linter.unusedSimpArgs false
namespace Go.Ev
open Go Go.RowKit
theorem allOk_of : ∀ {l : List Value}, (∀ v ∈ l, okc v = true) → allOk l = true
  | [], _ => rfl
  | x :: r, h => by simp only [allOk, h x (by simp)]; exact allOk_of fun v hv => h v (by simp [hv])
/-- Cells that are read. -/
theorem HR.cells {w0 : World} {ρ : Rho} {h : H} {w : World} (hr : HR w0 ρ h w) {a : Addr} {L : Loc} {n : Nat} {l : List Value} (hp : ρ a.block = some L) (hc : cellsAt h a n = some l) :
    ∃ l', VL ρ l l' ∧ l.length = n ∧ allOk l = true ∧ ∀ j v, l'[j]? = some v → w.cell? ⟨L.b, L.d + a.off + j, none⟩ = some v := by
  unfold cellsAt at hc
  split at hc
  case h_2 => cases hc
  rename_i x hx
  obtain ⟨⟨c', fr, hrow, hE, hfr, hcell⟩, hlen, hst, hex⟩ := hr.row hp (rowAt_get hx)
  rw [ldrop_eq] at hc
  obtain ⟨h1, rfl⟩ := ltake_eq _ _ hc
  rcases Nat.eq_zero_or_pos n with hn0 | hn0
  · subst hn0
    exact ⟨[], by simpa using VL.nil, by simp, rfl, fun j v hj => by simp at hj⟩
  have hxn : a.off + n ≤ x.c.length := by simp at h1; omega
  have hlen' : L.d + x.c.length ≤ L.E := hlen.resolve_left (by intro hh; rw [hh, List.length_nil] at hxn; omega)
  refine ⟨((c'.toList.drop (L.d + a.off)).take n), VL.of_get ?_ ?_, by simp at h1 ⊢; omega, ?_, ?_⟩
  · simp
    omega
  · intro i v v' hv hv'
    rw [List.getElem?_take] at hv hv'
    split at hv
    · rw [List.getElem?_drop] at hv
      rename_i hi
      rw [if_pos hi, List.getElem?_drop] at hv'
      obtain ⟨_, u, hu, hV⟩ := hcell _ _ hv
      have : u = v' := by
        have h2 : c'[L.d + a.off + i]? = some v' := by simpa using hv'
        rw [show L.d + a.off + i = L.d + (a.off + i) by omega, hu] at h2
        exact Option.some.inj h2
      exact this ▸ hV
    · cases hv
  · refine allOk_of fun v hv => ?_
    obtain ⟨i, hi⟩ := List.mem_iff_getElem?.1 hv
    rw [List.getElem?_take] at hi
    split at hi
    · rw [List.getElem?_drop] at hi; exact (hcell _ _ hi).1
    · cases hi
  · intro j v hv
    rw [List.getElem?_take] at hv
    split at hv
    · rw [List.getElem?_drop] at hv
      simp [World.cell?, hrow]
      simpa using hv
    · cases hv
theorem HR.loadCells {w0 : World} {ρ : Rho} {h : H} {w : World} (P : Program) (hr : HR w0 ρ h w) {a : Addr} {L : Loc} {n : Nat} {l : List Value} (hp : ρ a.block = some L) (hc : cellsAt h a n = some l) :
    ∃ l', VL ρ l l' ∧ l.length = n ∧ allOk l = true ∧ (Go.loadCells ⟨L.b, L.d + a.off, none⟩ n).run P w = .ok l'.toArray w ∧ ∀ j v, l'[j]? = some v → w.cell? ((⟨L.b, L.d + a.off, none⟩ : Addr).add j) = some v := by
  obtain ⟨l', h1, h2, h3, h4⟩ := hr.cells hp hc
  have h5 : ∀ j v, l'[j]? = some v → w.cell? ((⟨L.b, L.d + a.off, none⟩ : Addr).add j) = some v := fun j v hj => by
    rw [Addr.add_lit]; exact h4 j v hj
  have := run_loadCells_list (P := P) w ⟨L.b, L.d + a.off, none⟩ l' h5
  rw [← h1.length, h2] at this
  exact ⟨l', h1, h2, h3, this, h5⟩
/-- One cell that is read. -/
theorem HR.cell {w0 : World} {ρ : Rho} {h : H} {w : World} (hr : HR w0 ρ h w) {a : Addr} {L : Loc} {x : Row} {v : Value} (hp : ρ a.block = some L) (hx : rowAt h a.block = some x) (hc : lget x.c a.off = some v) :
    okc v = true ∧ ∃ v', V ρ v v' ∧ w.cell? ⟨L.b, L.d + a.off, none⟩ = some v' := by
  obtain ⟨⟨c', fr, hrow, hE, hfr, hcell⟩, hlen, hst, hex⟩ := hr.row hp (rowAt_get hx)
  rw [lget_eq] at hc
  obtain ⟨h1, v', h2, h3⟩ := hcell _ _ hc
  exact ⟨h1, v', h3, by simp [World.cell?, hrow, h2]⟩
/-- A row's shape. -/
theorem HR.shape {w0 : World} {ρ : Rho} {h : H} {w : World} (hr : HR w0 ρ h w) {r : Nat} {L : Loc} {x : Row} (hp : ρ r = some L) (hx : rowAt h r = some x) : w.shape? L.b = some (x.e, L.E) := by
  obtain ⟨⟨c', fr, hrow, hE, hfr, hcell⟩, _⟩ := hr.row hp (rowAt_get hx)
  simp [World.shape?, hrow, hE]
theorem heap_set_same (w : World) {b : Nat} (o : Obj) (h : b < w.heap.size) : ({ w with heap := w.heap.setIfInBounds b o } : World).heap[b]? = some o := by
  simp [h]
theorem heap_set_other (w : World) {b k : Nat} (o : Obj) (h : k ≠ b) : ({ w with heap := w.heap.setIfInBounds b o } : World).heap[k]? = w.heap[k]? := by
  simp [Array.getElem?_setIfInBounds_ne (Ne.symm h)]
/-- An object is no old one. -/
theorem HR.ownObj {w0 : World} {ρ : Rho} {h : H} {w : World} (hr : HR w0 ρ h w) {r : Nat} {L : Loc} {o : AObj} (hp : ρ r = some L) (hg : h.get r = some (.obj o)) : w0.heap.size ≤ L.b := by
  rcases Nat.lt_or_ge L.b w0.heap.size with h1 | h1
  · obtain ⟨y, h2, h3⟩ := hr.low hp h1
    rw [hg] at h2; cases h2
  · exact h1
/-- An object is changed. -/
theorem HR.putObj {w0 : World} {ρ : Rho} {h : H} {w : World} (hr : HR w0 ρ h w) {r : Nat} {L : Loc} {o o2 : AObj} {o2' : Obj} (hp : ρ r = some L) (hg : h.get r = some (.obj o)) (hv : OR ρ o2 o2') :
    HR w0 ρ (h.put r (.obj o2)) { w with heap := w.heap.setIfInBounds L.b o2' } := by
  have hB := hr.dom hp
  have hgA : (h.put r (.obj o2)).get r = some (.obj o2) := by rw [H.get_put, if_pos rfl]
  have hgO : ∀ {j}, j ≠ r → (h.put r (.obj o2)).get j = h.get j := fun hj => by rw [H.get_put, if_neg hj]
  have hne : ∀ {i M}, ρ i = some M → i ≠ r → M.b ≠ L.b := fun q hi hb => hi (hr.sepo hp q hg hb.symm).symm
  have rw1 : ∀ {i x}, (h.put r (.obj o2)).get i = some (.row x) → h.get i = some (.row x) ∧ i ≠ r := fun {i x} g => by
    by_cases hi : i = r
    · subst hi; rw [hgA] at g; cases g
    · exact ⟨by rw [← hgO hi]; exact g, hi⟩
  have hown := hr.ownObj hp hg
  refine { bel := hr.bel.trans ⟨rfl, rfl, rfl, by simp, fun k hk => heap_set_other w o2' (by omega)⟩, dom := ?_, low := ?_, has := ?_, top := ?_, row := ?_, obj := ?_, sep := ?_, sepo := ?_, uniq := ?_, psp := ?_, plt := ?_ }
  · intro i M q; have := hr.dom q; exact ⟨this.1, by simpa using this.2⟩
  · intro i M q hl
    obtain ⟨y, h1, h2⟩ := hr.low q hl
    by_cases hi : i = r
    · subst hi; rw [hg] at h1; cases h1
    · exact ⟨y, by rw [hgO hi]; exact h1, h2⟩
  · intro i M q
    by_cases hi : i = r
    · subst hi; exact ⟨_, hgA⟩
    · rw [hgO hi]; exact hr.has q
  · intro i b q
    by_cases hi : i = r
    · subst hi; exact hr.top hg
    · rw [hgO hi] at q; exact hr.top q
  · intro i M y q g
    obtain ⟨g, hi⟩ := rw1 g
    exact (hr.row q g).mono (Ext.refl ρ) (heap_set_other w o2' (hne q hi))
  · intro i M y q g
    by_cases hi : i = r
    · subst hi
      rw [hgA] at g; cases g
      rw [hp] at q; cases q
      exact ⟨(hr.obj hp hg).1, o2', heap_set_same w o2' hB.2, hv⟩
    · rw [hgO hi] at g
      obtain ⟨h1, o', h2, h3⟩ := hr.obj q g
      exact ⟨h1, o', by rw [heap_set_other w o2' (hne q hi)]; exact h2, h3⟩
  · intro i M y i' M' y' q q' g g' hn hb
    obtain ⟨g, hi⟩ := rw1 g
    obtain ⟨g', hi'⟩ := rw1 g'
    have s := hr.sep q q' g g' hn hb
    exact ⟨s.sp, s.fin, s.cut, fun a b => (s.par a b).mono (Ext.refl ρ) fun p y _ hy => ⟨y, by rw [hgO (by intro hh; rw [hh, hg] at hy; cases hy)]; exact hy, rfl⟩⟩
  · intro i M i' M' y q q' g hb
    by_cases hi : i = r
    · subst hi
      rw [hp] at q; cases q
      exact hr.sepo hp q' hg hb
    · rw [hgO hi] at g; exact hr.sepo q q' g hb
  · intro i i' y y' p o1 o2 g g' hx hx'; exact hr.uniq (rw1 g).1 (rw1 g').1 hx hx'
  · intro i y p o1 z g hx hz; exact hr.psp (rw1 g).1 hx (rw1 hz).1
  · intro i y p o1 g hx; exact hr.plt (rw1 g).1 hx
/-- A string shares a row's cells: it is not written any more. -/
theorem HR.freeze {w0 : World} {ρ : Rho} {h : H} {w : World} (hr : HR w0 ρ h w) {r : Nat} {L : Loc} {x : Row} {a : Addr} {n : Nat} (hp : ρ r = some L) (hg : h.get r = some (.row x)) (hsp : x.sp = false) (ha : a.block = L.b) :
    HR w0 ρ (h.put r (.row { x with sp := true })) (w.freeze a n) := by
  have hgA : (h.put r (.row { x with sp := true })).get r = some (.row { x with sp := true }) := by rw [H.get_put, if_pos rfl]
  have hgO : ∀ {j}, j ≠ r → (h.put r (.row { x with sp := true })).get j = h.get j := fun hj => by rw [H.get_put, if_neg hj]
  obtain ⟨⟨c', fr, hrow, hE, hfr, hcell⟩, hlen, hst, hex⟩ := hr.row hp hg
  have hown := hr.own hp hg hsp
  have hsz : (w.freeze a n).heap.size = w.heap.size := by
    unfold World.freeze; split
    · rfl
    · simp
  have hoth : ∀ k, k ≠ L.b → (w.freeze a n).heap[k]? = w.heap[k]? := by
    intro k hk
    unfold World.freeze; split
    · rfl
    · simp [Array.getElem?_modify, ha, Ne.symm hk]
  obtain ⟨fr2, hsame⟩ : ∃ fr2, (w.freeze a n).heap[L.b]? = some (.cells c' x.e fr2) := by
    unfold World.freeze; split
    · exact ⟨fr, hrow⟩
    · obtain ⟨lo, hi⟩ := fr
      exact ⟨_, by simp only [ha, Array.getElem?_modify, if_pos, hrow, Option.map_some]; rfl⟩
  have bwd : ∀ {i y}, (h.put r (.row { x with sp := true })).get i = some (.row y) → ∃ y0, h.get i = some (.row y0) ∧ y.c = y0.c ∧ (y0.sp = true → y.sp = true) ∧ y.par = y0.par ∧ y.k = y0.k := fun {i y} q => by
    by_cases hi : i = r
    · subst hi; rw [hgA] at q; cases q; exact ⟨x, hg, rfl, fun _ => rfl, rfl, rfl⟩
    · rw [hgO hi] at q; exact ⟨y, q, rfl, id, rfl, rfl⟩
  have fwd : ∀ {i y}, h.get i = some (.row y) → ∃ y', (h.put r (.row { x with sp := true })).get i = some (.row y') ∧ y'.c.length = y.c.length ∧ (y.sp = true → y'.sp = true) := fun {i y} q => by
    by_cases hi : i = r
    · subst hi; rw [hg] at q; cases q; exact ⟨_, hgA, rfl, fun _ => rfl⟩
    · exact ⟨y, by rw [hgO hi]; exact q, rfl, id⟩
  refine { bel := hr.bel.trans ⟨?_, ?_, ?_, by rw [hsz]; omega, fun k hk => hoth k (by omega)⟩, dom := ?_, low := ?_, has := ?_, top := ?_, row := ?_, obj := ?_, sep := ?_, sepo := ?_, uniq := ?_, psp := ?_, plt := ?_ }
  · unfold World.freeze; split <;> rfl
  · unfold World.freeze; split <;> rfl
  · unfold World.freeze; split <;> rfl
  · intro i M q; have := hr.dom q; exact ⟨this.1, by rw [hsz]; exact this.2⟩
  · intro i M q hl
    obtain ⟨y, h1, h2⟩ := hr.low q hl
    obtain ⟨y', h3, _, h4⟩ := fwd h1
    exact ⟨y', h3, h4 h2⟩
  · intro i M q
    by_cases hi : i = r
    · subst hi; exact ⟨_, hgA⟩
    · rw [hgO hi]; exact hr.has q
  · intro i b q
    by_cases hi : i = r
    · subst hi; exact hr.top hg
    · rw [hgO hi] at q; exact hr.top q
  · intro i M y q g
    by_cases hb : M.b = L.b
    · -- every row of the block is spent
      obtain ⟨y0, h1, h2, h3, h4, h5⟩ := bwd g
      have hys : y.sp = true := by
        by_cases hi : i = r
        · subst hi; rw [hgA] at g; cases g; rfl
        · rw [hgO hi] at g
          rcases Nat.lt_or_ge i r with hlt | hge
          · exact (hr.sep hp q hg g hlt hb.symm).sp
          · have := (hr.sep q hp g hg (by omega) hb).sp
            rw [hsp] at this; cases this
      obtain ⟨⟨c1, fr1, k1, k2, k3, k4⟩, g2, g3, g4⟩ := hr.row q h1
      rw [hb, hrow] at k1
      obtain ⟨rfl, he, _⟩ : c' = c1 ∧ x.e = y0.e ∧ fr = fr1 := by simpa using k1
      have hye : y.e = y0.e ∧ y.st = y0.st := by
        by_cases hi : i = r
        · subst hi; rw [hgA] at g; cases g; rw [hg] at h1; cases h1; exact ⟨rfl, rfl⟩
        · rw [hgO hi, h1] at g; cases g; exact ⟨rfl, rfl⟩
      exact ⟨⟨c', fr2, by rw [hb, hye.1, ← he]; exact hsame, k2, fun hh => (by rw [hys] at hh; cases hh), by rw [h2]; exact k4⟩, by rw [h2]; exact g2, by rw [hye.2]; exact g3, by rw [hye.2, h2]; exact g4⟩
    · have hi : i ≠ r := by intro hh; subst hh; rw [hp] at q; cases q; exact hb rfl
      rw [hgO hi] at g
      exact (hr.row q g).mono (Ext.refl ρ) (hoth M.b hb)
  · intro i M o q g
    by_cases hi : i = r
    · subst hi; rw [hgA] at g; cases g
    · rw [hgO hi] at g
      obtain ⟨h1, o', h2, h3⟩ := hr.obj q g
      refine ⟨h1, o', ?_, h3⟩
      rw [hoth M.b (fun hb => ?_)]
      · exact h2
      · rw [hb, hrow] at h2; cases h2; exact absurd rfl (h3.notCells _ _ _)
  · intro i M y i' M' y' q q' g g' hn hb
    obtain ⟨y0, h1, h2, h3, h4, h5⟩ := bwd g
    obtain ⟨z0, k1, k2, k3, k4, k5⟩ := bwd g'
    have s := hr.sep q q' h1 k1 hn hb
    have alive : (y.sp = false ∨ y.c ≠ []) → (y0.sp = false ∨ y0.c ≠ []) := fun hh => hh.imp (fun q => by cases hq : y0.sp with | false => rfl | true => rw [h3 hq] at q; cases q) (fun q => by rw [← h2]; exact q)
    refine ⟨k3 s.sp, fun a b => by rw [h2, k2]; exact s.fin ((alive (.inl a)).elim id fun _ => by cases hq : y0.sp with | false => rfl | true => rw [h3 hq] at a; cases a) (by rw [← k2]; exact b), fun a b ha hb' he => by rw [h5]; exact s.cut a b (by rw [← h2]; exact ha) (by rw [← k2]; exact hb') he, fun a b => ?_⟩
    obtain ⟨p, o, Lp, yp, p1, p2, p3, p4, p5, p6, p7, p8⟩ := s.par (alive a) (by rw [← k2]; exact b)
    obtain ⟨yp', q1, q2, _⟩ := fwd p6
    exact ⟨p, o, Lp, yp', by rw [h4]; exact p1, p2, p3, p4, p5, q1, p7, fun j hj => by rw [q2]; exact p8 j (by rw [← h5]; exact hj)⟩
  · intro i M i' M' o q q' g hb
    by_cases hi : i = r
    · subst hi; rw [hgA] at g; cases g
    · rw [hgO hi] at g; exact hr.sepo q q' g hb
  · intro i i' y y' p o o' g g' hx hx'
    obtain ⟨y0, h1, _, _, h4, _⟩ := bwd g
    obtain ⟨z0, k1, _, _, k4, _⟩ := bwd g'
    exact hr.uniq h1 k1 (by rw [← h4]; exact hx) (by rw [← k4]; exact hx')
  · intro i y p o z g hx hz
    obtain ⟨y0, h1, _, _, h4, _⟩ := bwd g
    obtain ⟨z0, k1, _, k3, _, _⟩ := bwd hz
    exact k3 (hr.psp h1 (by rw [← h4]; exact hx) k1)
  · intro i y p o g hx
    obtain ⟨y0, h1, _, _, h4, _⟩ := bwd g
    exact hr.plt h1 (by rw [← h4]; exact hx)
/-- append beyond a row's end, in place: a row of its own that shares the cells. -/
theorem HR.grow {w0 : World} {ρ : Rho} {h : H} {w : World} (P : Program) (hr : HR w0 ρ h w) {r : Nat} {L : Loc} {x : Row} {off k : Nat} {new new' : List Value} (hp : ρ r = some L) (hg : h.get r = some (.row x))
    (hsp : x.sp = false) (hoff : off + k = x.c.length) (hfit : L.d + x.c.length + new'.length ≤ L.E) (hv : VL ρ new new') (ho : allOk new = true) (hst : x.st ≠ 0) :
    ∃ w', (storeCells ⟨L.b, L.d + x.c.length, none⟩ new').run P w = .ok () w' ∧
      HR w0 (upd ρ h.next ⟨L.b, L.d + off, x.st, L.E⟩) ((h.put r (.row { x with sp := true })).push (.row ⟨(x.c.drop off).take k ++ new, x.e, x.st, k, some (r, off), false⟩)) w' := by
  have hρ : ρ h.next = none := hr.fresh (Nat.le_refl _)
  have e := upd_ext (L := ⟨L.b, L.d + off, x.st, L.E⟩) hρ
  obtain ⟨⟨c', fr, hrow, hE, hfr, hcell⟩, hlen, hstL, hex⟩ := hr.row hp hg
  have hll := hv.length
  have hk : ((x.c.drop off).take k).length = k := by simp; omega
  have hrn : r < h.next := (hr.dom hp).1
  have hd := hr.dom hp
  have hown := hr.own hp hg hsp
  have hfr' := hfr hsp
  refine ⟨w.setRow L.b (c'.toList.take (L.d + x.c.length) ++ new' ++ c'.toList.drop (L.d + x.c.length + new'.length)).toArray, ?_, ?_⟩
  · have := run_storeCells_free P L.b (L.d + x.c.length) x.e fr new' 0 c' w hrow (by rw [hE]; exact hfr') (by omega) (hv.one ho)
    simpa using this
  have hfit' : L.d + x.c.length + new'.length ≤ c'.toList.length := by simp; omega
  have hget : ∀ j, (c'.toList.take (L.d + x.c.length) ++ new' ++ c'.toList.drop (L.d + x.c.length + new'.length)).toArray[j]? = if L.d + x.c.length ≤ j ∧ j < L.d + x.c.length + new'.length then new'[j - (L.d + x.c.length)]? else c'[j]? := by
    intro j
    have := seg_get c'.toList new' (L.d + x.c.length) hfit' j
    simpa using this
  have hsz : (c'.toList.take (L.d + x.c.length) ++ new' ++ c'.toList.drop (L.d + x.c.length + new'.length)).toArray.size = c'.size := by
    have := seg_len c'.toList new' (L.d + x.c.length) hfit'
    simpa using this
  generalize hcc : (c'.toList.take (L.d + x.c.length) ++ new' ++ c'.toList.drop (L.d + x.c.length + new'.length)).toArray = cc at hget hsz
  have hhead : (w.setRow L.b cc).heap[L.b]? = some (.cells cc x.e fr) := setRow_heap w L.b c' cc x.e fr hrow
  generalize hN : (⟨(x.c.drop off).take k ++ new, x.e, x.st, k, some (r, off), false⟩ : Row) = N
  have Nc : N.c = (x.c.drop off).take k ++ new := by rw [← hN]
  have Ne : N.e = x.e := by rw [← hN]
  have Nst : N.st = x.st := by rw [← hN]
  have Nk : N.k = k := by rw [← hN]
  have Np : N.par = some (r, off) := by rw [← hN]
  have Nsp : N.sp = false := by rw [← hN]
  have Nl : N.c.length = k + new.length := by rw [Nc, List.length_append, hk]
  generalize hH2 : (h.put r (.row { x with sp := true })).push (.row N) = H2
  have nx : H2.next = h.next + 1 := by rw [← hH2]; rfl
  have hnext : (h.put r (.row { x with sp := true })).next = h.next := rfl
  have gN : H2.get h.next = some (.row N) := by rw [← hH2, H.get_push, hnext, if_pos rfl]
  have gR : H2.get r = some (.row { x with sp := true }) := by rw [← hH2, H.get_push, hnext, if_neg (by omega), H.get_put, if_pos rfl]
  have gO : ∀ {j}, j ≠ r → j ≠ h.next → H2.get j = h.get j := fun h1 h2 => by rw [← hH2, H.get_push, hnext, if_neg h2, H.get_put, if_neg h1]
  have gnx : h.get h.next = none := hr.get_next
  have uN : ∀ {M}, upd ρ h.next ⟨L.b, L.d + off, x.st, L.E⟩ h.next = some M → M = ⟨L.b, L.d + off, x.st, L.E⟩ := by
    intro M q; rw [upd_same] at q; exact (Option.some.inj q).symm
  have uO : ∀ {i M}, upd ρ h.next ⟨L.b, L.d + off, x.st, L.E⟩ i = some M → i ≠ h.next → ρ i = some M := by
    intro i M q hi; rw [upd_other _ _ hi] at q; exact q
  have uR : ∀ {M}, upd ρ h.next ⟨L.b, L.d + off, x.st, L.E⟩ r = some M → M = L := by
    intro M q; have := uO q (by omega); rw [hp] at this; exact (Option.some.inj this).symm
  -- the other rows of the block are older
  have sO : ∀ {i M y}, ρ i = some M → h.get i = some (.row y) → i ≠ r → L.b = M.b → i < r ∧ Sep ρ h r L x i M y := by
    intro i M y q g hi hb
    rcases Nat.lt_or_ge i r with hlt | hge
    · exact ⟨hlt, hr.sep hp q hg g hlt hb⟩
    · have := (hr.sep q hp g hg (by omega) hb.symm).sp
      rw [hsp] at this; cases this
  have bwd : ∀ {i y}, H2.get i = some (.row y) → i ≠ h.next → ∃ y0, h.get i = some (.row y0) ∧ y.c = y0.c ∧ (y0.sp = true → y.sp = true) ∧ y.par = y0.par ∧ y.k = y0.k ∧ y.e = y0.e ∧ y.st = y0.st := fun {i y} q hn => by
    by_cases hi : i = r
    · subst hi; rw [gR] at q; cases q; exact ⟨x, hg, rfl, fun _ => rfl, rfl, rfl, rfl, rfl⟩
    · rw [gO hi hn] at q; exact ⟨y, q, rfl, id, rfl, rfl, rfl, rfl⟩
  have fwd : ∀ {i y}, h.get i = some (.row y) → ∃ y', H2.get i = some (.row y') ∧ y'.c.length = y.c.length ∧ (y.sp = true → y'.sp = true) := fun {i y} q => by
    have hn : i ≠ h.next := by intro hh; rw [hh, gnx] at q; cases q
    by_cases hi : i = r
    · subst hi; rw [hg] at q; cases q; exact ⟨_, gR, rfl, fun _ => rfl⟩
    · exact ⟨y, by rw [gO hi hn]; exact q, rfl, id⟩
  refine { bel := below_setRow hr.bel hown _, dom := ?_, low := ?_, has := ?_, top := ?_, row := ?_, obj := ?_, sep := ?_, sepo := ?_, uniq := ?_, psp := ?_, plt := ?_ }
  · intro i M q
    rw [nx]
    by_cases hi : i = h.next
    · subst hi; rw [uN q]; exact ⟨Nat.lt_succ_self _, by simpa using hd.2⟩
    · have := hr.dom (uO q hi); exact ⟨Nat.lt_succ_of_lt this.1, by simpa using this.2⟩
  · intro i M q hl
    by_cases hi : i = h.next
    · subst hi; rw [uN q] at hl; simp at hl; omega
    · obtain ⟨y, h1, h2⟩ := hr.low (uO q hi) hl
      obtain ⟨y', h3, _, h4⟩ := fwd h1
      exact ⟨y', h3, h4 h2⟩
  · intro i M q
    by_cases hi : i = h.next
    · subst hi; exact ⟨_, gN⟩
    · by_cases hi' : i = r
      · subst hi'; exact ⟨_, gR⟩
      · rw [gO hi' hi]; exact hr.has (uO q hi)
  · intro i b q
    rw [nx]
    by_cases hi : i = h.next
    · omega
    · by_cases hi' : i = r
      · omega
      · rw [gO hi' hi] at q; have := hr.top q; omega
  · intro i M y q g
    by_cases hi : i = h.next
    · subst hi
      rw [gN] at g; cases g
      rw [uN q]
      refine ⟨⟨cc, fr, by rw [Ne]; exact hhead, by rw [hsz]; exact hE, fun _ => hfr', fun j v hj => ?_⟩, .inr (by rw [Nl]; show L.d + off + (k + new.length) ≤ L.E; omega), Nst.symm, fun hh => absurd (Nst ▸ hh) hst⟩
      rw [Nc] at hj
      rw [hget]
      by_cases hjk : j < k
      · rw [List.getElem?_append_left (by rw [hk]; exact hjk), List.getElem?_take, if_pos hjk, List.getElem?_drop] at hj
        obtain ⟨o1, v', o2, o3⟩ := hcell _ _ hj
        refine ⟨o1, v', ?_, o3.mono e⟩
        rw [if_neg (by simp; omega)]
        rw [show (L.d + off + j) = L.d + (off + j) by omega]
        exact o2
      · rw [List.getElem?_append_right (by rw [hk]; omega), hk] at hj
        obtain ⟨v', o2, o3⟩ := hv.get hj
        refine ⟨allOk_mem ho v (List.mem_of_getElem? hj), v', ?_, o3.mono e⟩
        have hjl : j - k < new.length := (List.getElem?_eq_some_iff.1 hj).1
        rw [if_pos (by simp; omega)]
        rw [show L.d + off + j - (L.d + x.c.length) = j - k by omega]
        exact o2
    · obtain ⟨y0, h1, h2, h3, h4, h5, h6, h7⟩ := bwd g hi
      have q' := uO q hi
      by_cases hb : M.b = L.b
      · have hys : y.sp = true := by
          by_cases hi' : i = r
          · subst hi'; rw [gR] at g; cases g; rfl
          · rw [gO hi' hi, ] at g; exact (sO q' g hi' hb.symm).2.sp
        obtain ⟨⟨c1, fr1, k1, k2, k3, k4⟩, g2, g3, g4⟩ := hr.row q' h1
        rw [hb, hrow] at k1
        obtain ⟨rfl, he, rfl⟩ : c' = c1 ∧ x.e = y0.e ∧ fr = fr1 := by simpa using k1
        refine ⟨⟨cc, fr, by rw [hb, h6, ← he]; exact hhead, by rw [hsz]; exact k2, fun hh => (by rw [hys] at hh; cases hh), fun j v hj => ?_⟩, by rw [h2]; exact g2, by rw [h7]; exact g3, by rw [h7, h2]; exact g4⟩
        rw [h2] at hj
        obtain ⟨o1, v', o2, o3⟩ := k4 j v hj
        have hjl : j < y0.c.length := (List.getElem?_eq_some_iff.1 hj).1
        refine ⟨o1, v', ?_, o3.mono e⟩
        rw [hget, if_neg, o2]
        intro hin
        by_cases hi' : i = r
        · subst hi'; rw [hg] at h1; cases h1; rw [hp] at q'; cases q'; omega
        · have := (sO q' h1 hi' hb.symm).2.fin hsp (by intro hh; rw [hh] at hjl; simp at hjl)
          omega
      · by_cases hi' : i = r
        · subst hi'; rw [hp] at q'; cases q'; exact absurd rfl hb
        · rw [gO hi' hi] at g
          exact (hr.row q' g).mono e (setRow_other w L.b M.b cc hb)
  · intro i M o q g
    by_cases hi : i = h.next
    · subst hi; rw [gN] at g; cases g
    · by_cases hi' : i = r
      · subst hi'; rw [gR] at g; cases g
      · rw [gO hi' hi] at g
        obtain ⟨h1, o', h2, h3⟩ := hr.obj (uO q hi) g
        refine ⟨h1, o', ?_, h3.mono e⟩
        rw [setRow_other w L.b M.b cc (fun hb => ?_)]
        · exact h2
        · rw [hb, hrow] at h2; cases h2; exact absurd rfl (h3.notCells _ _ _)
  · intro i M y i' M' y' q q' g g' hlt hb
    have hi' : i' ≠ h.next := by
      intro hh; subst hh
      have : i < h.next + 1 := by
        by_cases hi : i = h.next
        · omega
        · have := (hr.dom (uO q hi)).1; omega
      omega
    obtain ⟨z0, z1, z2, z3, z4, z5, _⟩ := bwd g' hi'
    have qi' := uO q' hi'
    by_cases hi : i = h.next
    · subst hi
      rw [gN] at g; cases g
      have hM := uN q; subst hM
      have hb' : L.b = M'.b := hb
      by_cases hir : i' = r
      · subst hir
        rw [gR] at g'; cases g'
        rw [hp] at qi'; cases qi'
        refine ⟨rfl, fun _ _ => by rw [Nl]; show L.d + x.c.length ≤ L.d + off + (k + new.length); omega, fun a b ha hb2 he => ?_, fun _ _ => ⟨i', off, L, { x with sp := true }, Np, Nat.le_refl _, hrn, e _ _ hp, rfl, gR, rfl, fun j hj => ?_⟩⟩
        · rw [Nk]; have hb3 : b < x.c.length := hb2; have he' : L.d + off + a = L.d + b := he; omega
        · rw [Nk] at hj; show off + j < x.c.length; omega
      · obtain ⟨lt, s⟩ := sO qi' z1 hir hb'
        have hys : y'.sp = true := z3 s.sp
        refine ⟨hys, fun _ hne => ?_, fun a b ha hb2 he => ?_, fun _ hne => ⟨r, off, L, { x with sp := true }, Np, by omega, hrn, e _ _ hp, rfl, gR, rfl, fun j hj => ?_⟩⟩
        · rw [z2] at hne ⊢
          have := s.fin hsp hne
          rw [Nl]; show M'.d + z0.c.length ≤ L.d + off + (k + new.length); omega
        · rw [Nk]
          rw [z2] at hb2
          have he' : L.d + off + a = M'.d + b := he
          have hne : z0.c ≠ [] := by intro hh; rw [hh] at hb2; simp at hb2
          have := s.fin hsp hne
          omega
        · rw [Nk] at hj; show off + j < x.c.length; omega
    · obtain ⟨y0, h1, h2, h3, h4, h5, _⟩ := bwd g hi
      have s := hr.sep (uO q hi) qi' h1 z1 hlt hb
      have alive : (y.sp = false ∨ y.c ≠ []) → (y0.sp = false ∨ y0.c ≠ []) := fun hh => hh.imp (fun q => by cases hq : y0.sp with | false => rfl | true => rw [h3 hq] at q; cases q) (fun q => by rw [← h2]; exact q)
      refine ⟨z3 s.sp, fun a b => by rw [h2, z2]; exact s.fin (by cases hq : y0.sp with | false => rfl | true => rw [h3 hq] at a; cases a) (by rw [← z2]; exact b), fun a b ha hb' he => by rw [h5]; exact s.cut a b (by rw [← h2]; exact ha) (by rw [← z2]; exact hb') he, fun a b => ?_⟩
      obtain ⟨p, o, Lp, yp, p1, p2, p3, p4, p5, p6, p7, p8⟩ := s.par (alive a) (by rw [← z2]; exact b)
      obtain ⟨yp', q1, q2, _⟩ := fwd p6
      exact ⟨p, o, Lp, yp', by rw [h4]; exact p1, p2, p3, e _ _ p4, p5, q1, p7, fun j hj => by rw [q2]; exact p8 j (by rw [← h5]; exact hj)⟩
  · intro i M i' M' o q q' g hb
    by_cases hi : i = h.next
    · subst hi; rw [gN] at g; cases g
    · by_cases hir : i = r
      · subst hir; rw [gR] at g; cases g
      · rw [gO hir hi] at g
        have qi := uO q hi
        have hnL : M.b ≠ L.b := fun hh => hir (hr.sepo qi hp g hh)
        by_cases hi' : i' = h.next
        · subst hi'
          rw [uN q'] at hb; exact absurd hb hnL
        · exact hr.sepo qi (uO q' hi') g hb
  · intro i i' y y' p o o' g g' hx hx'
    have noR : ∀ {j z o1}, H2.get j = some (.row z) → j ≠ h.next → z.par = some (r, o1) → False := fun {j z o1} gz hn hz => by
      obtain ⟨z0, h1, h2, h3, h4, _⟩ := bwd gz hn
      have := hr.psp h1 (by rw [← h4]; exact hz) hg
      rw [hsp] at this; cases this
    by_cases hi : i = h.next
    · by_cases hi' : i' = h.next
      · rw [hi, hi']
      · subst hi
        rw [gN] at g; cases g
        rw [Np] at hx; cases hx
        exact (noR g' hi' hx').elim
    · by_cases hi' : i' = h.next
      · subst hi'
        rw [gN] at g'; cases g'
        rw [Np] at hx'; cases hx'
        exact (noR g hi hx).elim
      · obtain ⟨y0, h1, _, _, h4, _⟩ := bwd g hi
        obtain ⟨z0, k1, _, _, k4, _⟩ := bwd g' hi'
        exact hr.uniq h1 k1 (by rw [← h4]; exact hx) (by rw [← k4]; exact hx')
  · intro i y p o z g hx hz
    by_cases hi : i = h.next
    · subst hi
      rw [gN] at g; cases g
      rw [Np] at hx; cases hx
      rw [gR] at hz; cases hz; rfl
    · obtain ⟨y0, h1, _, _, h4, _⟩ := bwd g hi
      have hx' : y0.par = some (p, o) := by rw [← h4]; exact hx
      have h9 := hr.plt h1 hx'
      have h10 := hr.top h1
      obtain ⟨z0, k1, _, k3, _⟩ := bwd hz (by omega)
      exact k3 (hr.psp h1 hx' k1)
  · intro i y p o g hx
    by_cases hi : i = h.next
    · subst hi
      rw [gN] at g; cases g
      rw [Np] at hx; cases hx
      exact hrn
    · obtain ⟨y0, h1, _, _, h4, _⟩ := bwd g hi
      exact hr.plt h1 (by rw [← h4]; exact hx)
/-- append beyond a row's end, moved: the row is spent, its child is not yet laid. -/
theorem HR.spendPush {w0 : World} {ρ : Rho} {h : H} {w : World} (hr : HR w0 ρ h w) {r : Nat} {x N : Row} {off : Nat} (hg : h.get r = some (.row x)) (hsp : x.sp = false) (hpar : N.par = some (r, off)) :
    HR w0 ρ ((h.put r (.row { x with sp := true })).push (.row N)) w := by
  have hrn : r < h.next := hr.top hg
  generalize hH2 : (h.put r (.row { x with sp := true })).push (.row N) = H2
  have nx : H2.next = h.next + 1 := by rw [← hH2]; rfl
  have hnext : (h.put r (.row { x with sp := true })).next = h.next := rfl
  have gN : H2.get h.next = some (.row N) := by rw [← hH2, H.get_push, hnext, if_pos rfl]
  have gR : H2.get r = some (.row { x with sp := true }) := by rw [← hH2, H.get_push, hnext, if_neg (by omega), H.get_put, if_pos rfl]
  have gO : ∀ {j}, j ≠ r → j ≠ h.next → H2.get j = h.get j := fun h1 h2 => by rw [← hH2, H.get_push, hnext, if_neg h2, H.get_put, if_neg h1]
  have gnx : h.get h.next = none := hr.get_next
  have ne : ∀ {i L}, ρ i = some L → i ≠ h.next := fun hp => by have := (hr.dom hp).1; omega
  have bwd : ∀ {i y}, H2.get i = some (.row y) → i ≠ h.next → ∃ y0, h.get i = some (.row y0) ∧ y.c = y0.c ∧ (y0.sp = true → y.sp = true) ∧ y.par = y0.par ∧ y.k = y0.k ∧ y.e = y0.e ∧ y.st = y0.st := fun {i y} q hn => by
    by_cases hi : i = r
    · subst hi; rw [gR] at q; cases q; exact ⟨x, hg, rfl, fun _ => rfl, rfl, rfl, rfl, rfl⟩
    · rw [gO hi hn] at q; exact ⟨y, q, rfl, id, rfl, rfl, rfl, rfl⟩
  have fwd : ∀ {i y}, h.get i = some (.row y) → ∃ y', H2.get i = some (.row y') ∧ y'.c.length = y.c.length ∧ (y.sp = true → y'.sp = true) := fun {i y} q => by
    have hn : i ≠ h.next := by intro hh; rw [hh, gnx] at q; cases q
    by_cases hi : i = r
    · subst hi; rw [hg] at q; cases q; exact ⟨_, gR, rfl, fun _ => rfl⟩
    · exact ⟨y, by rw [gO hi hn]; exact q, rfl, id⟩
  refine { bel := hr.bel, dom := fun q => ⟨by have := (hr.dom q).1; omega, (hr.dom q).2⟩, low := ?_, has := ?_, top := ?_, row := ?_, obj := ?_, sep := ?_, sepo := ?_, uniq := ?_, psp := ?_, plt := ?_ }
  · intro i M q hl
    obtain ⟨y, h1, h2⟩ := hr.low q hl
    obtain ⟨y', h3, _, h4⟩ := fwd h1
    exact ⟨y', h3, h4 h2⟩
  · intro i M q
    by_cases hi' : i = r
    · subst hi'; exact ⟨_, gR⟩
    · rw [gO hi' (ne q)]; exact hr.has q
  · intro i b q
    rw [nx]
    by_cases hi : i = h.next
    · omega
    · by_cases hi' : i = r
      · omega
      · rw [gO hi' hi] at q; have := hr.top q; omega
  · intro i M y q g
    obtain ⟨y0, h1, h2, h3, h4, h5, h6, h7⟩ := bwd g (ne q)
    obtain ⟨⟨c1, fr1, k1, k2, k3, k4⟩, g2, g3, g4⟩ := hr.row q h1
    refine ⟨⟨c1, fr1, by rw [h6]; exact k1, k2, fun hh => k3 (by cases hq : y0.sp with | false => rfl | true => rw [h3 hq] at hh; cases hh), by rw [h2]; exact k4⟩, by rw [h2]; exact g2, by rw [h7]; exact g3, by rw [h7, h2]; exact g4⟩
  · intro i M o q g
    by_cases hi' : i = r
    · subst hi'; rw [gR] at g; cases g
    · rw [gO hi' (ne q)] at g; exact hr.obj q g
  · intro i M y i' M' y' q q' g g' hlt hb
    obtain ⟨y0, h1, h2, h3, h4, h5, _⟩ := bwd g (ne q)
    obtain ⟨z0, z1, z2, z3, z4, z5, _⟩ := bwd g' (ne q')
    have s := hr.sep q q' h1 z1 hlt hb
    have alive : (y.sp = false ∨ y.c ≠ []) → (y0.sp = false ∨ y0.c ≠ []) := fun hh => hh.imp (fun q => by cases hq : y0.sp with | false => rfl | true => rw [h3 hq] at q; cases q) (fun q => by rw [← h2]; exact q)
    refine ⟨z3 s.sp, fun a b => by rw [h2, z2]; exact s.fin (by cases hq : y0.sp with | false => rfl | true => rw [h3 hq] at a; cases a) (by rw [← z2]; exact b), fun a b ha hb' he => by rw [h5]; exact s.cut a b (by rw [← h2]; exact ha) (by rw [← z2]; exact hb') he, fun a b => ?_⟩
    obtain ⟨p, o, Lp, yp, p1, p2, p3, p4, p5, p6, p7, p8⟩ := s.par (alive a) (by rw [← z2]; exact b)
    obtain ⟨yp', q1, q2, _⟩ := fwd p6
    exact ⟨p, o, Lp, yp', by rw [h4]; exact p1, p2, p3, p4, p5, q1, p7, fun j hj => by rw [q2]; exact p8 j (by rw [← h5]; exact hj)⟩
  · intro i M i' M' o q q' g hb
    by_cases hir : i = r
    · subst hir; rw [gR] at g; cases g
    · rw [gO hir (ne q)] at g; exact hr.sepo q q' g hb
  · intro i i' y y' p o o' g g' hx hx'
    have noR : ∀ {j z o1}, H2.get j = some (.row z) → j ≠ h.next → z.par = some (r, o1) → False := fun {j z o1} gz hn hz => by
      obtain ⟨z0, h1, h2, h3, h4, _⟩ := bwd gz hn
      have := hr.psp h1 (by rw [← h4]; exact hz) hg
      rw [hsp] at this; cases this
    by_cases hi : i = h.next
    · by_cases hi' : i' = h.next
      · rw [hi, hi']
      · subst hi
        rw [gN] at g; cases g
        rw [hpar] at hx; cases hx
        exact (noR g' hi' hx').elim
    · by_cases hi' : i' = h.next
      · subst hi'
        rw [gN] at g'; cases g'
        rw [hpar] at hx'; cases hx'
        exact (noR g hi hx).elim
      · obtain ⟨y0, h1, _, _, h4, _⟩ := bwd g hi
        obtain ⟨z0, k1, _, _, k4, _⟩ := bwd g' hi'
        exact hr.uniq h1 k1 (by rw [← h4]; exact hx) (by rw [← k4]; exact hx')
  · intro i y p o z g hx hz
    by_cases hi : i = h.next
    · subst hi
      rw [gN] at g; cases g
      rw [hpar] at hx; cases hx
      rw [gR] at hz; cases hz; rfl
    · obtain ⟨y0, h1, _, _, h4, _⟩ := bwd g hi
      have hx' : y0.par = some (p, o) := by rw [← h4]; exact hx
      have h9 := hr.plt h1 hx'
      have h10 := hr.top h1
      obtain ⟨z0, k1, _, k3, _⟩ := bwd hz (by omega)
      exact k3 (hr.psp h1 hx' k1)
  · intro i y p o g hx
    by_cases hi : i = h.next
    · subst hi
      rw [gN] at g; cases g
      rw [hpar] at hx; cases hx
      exact hrn
    · obtain ⟨y0, h1, _, _, h4, _⟩ := bwd g hi
      exact hr.plt h1 (by rw [← h4]; exact hx)
end Go.Ev
end
