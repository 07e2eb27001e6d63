/- Plain laws: the comparisons as orders; what a search finds in a list that rises. Plain laws: the timers but one. The plain model of a network: what each operation answers; no program in sight. The methods' contracts, by the plain model. Words for the walks that follow: a block's cells at once; what a method leaves, carried on; done by the plain model. Plain laws: a list with one put in, element by element. Plain laws of NetTwoWays and NetCuts: over the model, no program in sight. -/
import Derived.Test.YthlbmcfliejdiaaGreatGc
import Derived.Test.YthlbmcfliejdiaaGreatGd
import Derived.Test.YthlbmcfliejdiaaGreatGe
section
set_option linter.unusedVariables false
set_option linter.unusedSimpArgs false
namespace Go.Proofs.YthlbmcfliejdiaaGreat
open Go.RowKit

theorem cmpF_lt (a b : Int) : cmpF a b < 0 ↔ a < b := by
  unfold cmpF
  split
  · simp [*]
  · split <;> omega
theorem cmpF_eq (a b : Int) : cmpF a b = 0 ↔ a = b := by
  unfold cmpF
  split
  · constructor <;> intro h <;> omega
  · split <;> constructor <;> intro h <;> omega
theorem linkCmp_lt (a1 b1 a2 b2 : Int) : linkCmp a1 b1 a2 b2 < 0 ↔ a1 < a2 ∨ a1 = a2 ∧ b1 < b2 := by
  unfold linkCmp orF orF orF
  have h1 := cmpF_lt a1 a2
  have h2 := cmpF_eq a1 a2
  have h3 := cmpF_lt b1 b2
  have h4 := cmpF_eq b1 b2
  split
  · rename_i h
    split <;> simp_all
  · simp_all
theorem linkCmp_eq (a1 b1 a2 b2 : Int) : linkCmp a1 b1 a2 b2 = 0 ↔ a1 = a2 ∧ b1 = b2 := by
  unfold linkCmp orF orF orF
  have h2 := cmpF_eq a1 a2
  have h4 := cmpF_eq b1 b2
  split
  · split <;> simp_all
  · simp_all
theorem timerCmp_lt (t1 n1 g1 t2 n2 g2 : Int) : timerCmp t1 n1 g1 t2 n2 g2 < 0 ↔ t1 < t2 ∨ t1 = t2 ∧ (n1 < n2 ∨ n1 = n2 ∧ g1 < g2) := by
  have h := linkCmp_lt n1 g1 n2 g2
  have h1 := cmpF_lt t1 t2
  have h2 := cmpF_eq t1 t2
  have e : timerCmp t1 n1 g1 t2 n2 g2 = if cmpF t1 t2 = 0 then linkCmp n1 g1 n2 g2 else cmpF t1 t2 := rfl
  rw [e]
  split
  · rename_i h3
    rw [h]
    have := h2.1 h3
    omega
  · rw [h1]
    rename_i h3
    have : ¬ t1 = t2 := fun h4 => h3 (h2.2 h4)
    omega
theorem timerCmp_eq (t1 n1 g1 t2 n2 g2 : Int) : timerCmp t1 n1 g1 t2 n2 g2 = 0 ↔ t1 = t2 ∧ n1 = n2 ∧ g1 = g2 := by
  have h := linkCmp_eq n1 g1 n2 g2
  have h2 := cmpF_eq t1 t2
  have e : timerCmp t1 n1 g1 t2 n2 g2 = if cmpF t1 t2 = 0 then linkCmp n1 g1 n2 g2 else cmpF t1 t2 := rfl
  rw [e]
  split
  · rename_i h3
    rw [h]
    have := h2.1 h3
    omega
  · rename_i h3
    have : ¬ t1 = t2 := fun h4 => h3 (h2.2 h4)
    constructor
    · intro h5; exact absurd h5 h3
    · intro h5; exact absurd h5.1 this

/-- A comparison that is an order. -/
structure CmpOrd {α : Type} (cmp : α → α → Int) : Prop where
  eq0 : ∀ x y, cmp x y = 0 ↔ x = y
  flip : ∀ x y, cmp x y < 0 → ¬ cmp y x < 0
  tot : ∀ x y, cmp x y < 0 ∨ x = y ∨ cmp y x < 0
  trans : ∀ x y z, cmp x y < 0 → cmp y z < 0 → cmp x z < 0
theorem lkOrd : CmpOrd lkCmp := by
  refine ⟨fun x y => ?_, fun x y h => ?_, fun x y => ?_, fun x y z h1 h2 => ?_⟩
  · obtain ⟨a, b⟩ := x; obtain ⟨c, d⟩ := y
    simp [lkCmp, linkCmp_eq]
  · simp only [lkCmp, linkCmp_lt] at *; omega
  · obtain ⟨a, b⟩ := x; obtain ⟨c, d⟩ := y
    simp only [lkCmp, linkCmp_lt, Lk.mk.injEq]; omega
  · simp only [lkCmp, linkCmp_lt] at *; omega
theorem tmOrd : CmpOrd tmCmp := by
  refine ⟨fun x y => ?_, fun x y h => ?_, fun x y => ?_, fun x y z h1 h2 => ?_⟩
  · obtain ⟨a, b, e⟩ := x; obtain ⟨c, d, f⟩ := y
    simp [tmCmp, timerCmp_eq]
  · simp only [tmCmp, timerCmp_lt] at *; omega
  · obtain ⟨a, b, e⟩ := x; obtain ⟨c, d, f⟩ := y
    simp only [tmCmp, timerCmp_lt, Tm.mk.injEq]; omega
  · simp only [tmCmp, timerCmp_lt] at *; omega

/-- Put in front of the first that is greater. -/
def insS {α : Type} (cmp : α → α → Int) (c : α) : List α → List α
  | [] => [c]
  | d :: r => if cmp c d < 0 then c :: d :: r else d :: insS cmp c r

theorem rises_tail {α : Type} {cmp : α → α → Int} {x : α} {r : List α} (h : risesF cmp (x :: r) = true) : risesF cmp r = true := by
  cases r with
  | nil => rfl
  | cons y r => simp only [risesF, Bool.and_eq_true] at h; exact h.2
theorem rises_all {α : Type} {cmp : α → α → Int} (ho : CmpOrd cmp) : ∀ {x : α} {r : List α}, risesF cmp (x :: r) = true → ∀ y ∈ r, cmp x y < 0
  | _, [], _, _, h => by cases h
  | x, z :: r, h, y, hy => by
    have h2 := rises_tail h
    simp only [risesF, Bool.and_eq_true, decide_eq_true_eq] at h
    rcases List.mem_cons.1 hy with rfl | hy
    · exact h.1
    · exact ho.trans _ _ _ h.1 (rises_all ho h2 y hy)
theorem bsAt_tail {α : Type} {cmp : α → α → Int} {d c : α} {r : List α} {p : Nat} (h : bsAt cmp (d :: r) (p + 1) c) : bsAt cmp r p c :=
  ⟨by simpa using h.1, fun q x hq hx => h.2.1 (q + 1) x (by omega) (by simpa using hx), fun x hx => h.2.2 x (by simpa using hx)⟩
theorem bsAt_head {α : Type} {cmp : α → α → Int} (ho : CmpOrd cmp) {d c : α} {r : List α} {p : Nat} (hr : risesF cmp (d :: r) = true) (h : bsAt cmp (d :: r) (p + 1) c) : cmp d c < 0 := by
  have hp : p < (d :: r).length := h.1
  have h1 := h.2.1 p _ rfl (List.getElem?_eq_getElem hp)
  cases p with
  | zero => exact h1
  | succ p => exact ho.trans _ _ _ (rises_all ho hr _ (by simp)) h1
theorem ins_law {α : Type} {cmp : α → α → Int} (ho : CmpOrd cmp) (c : α) : ∀ (xs : List α) (p : Nat), risesF cmp xs = true → bsAt cmp xs p c → foundF cmp xs p c = false → insAt xs p c = insS cmp c xs
  | [], p, _, h, _ => by
    obtain rfl : p = 0 := by simpa using h.1
    rfl
  | d :: r, 0, hr, h, hf => by
    have h1 := h.2.2 d rfl
    have h2 : ¬ cmp d c = 0 := by simpa [foundF] using hf
    have h3 : cmp c d < 0 := by
      rcases ho.tot d c with h4 | h4 | h4
      · exact absurd h4 h1
      · exact absurd ((ho.eq0 d c).2 h4) h2
      · exact h4
    simp [insAt, insS, h3]
  | d :: r, p + 1, hr, h, hf => by
    have h1 := bsAt_head ho hr h
    have h2 := ho.flip _ _ h1
    have ih := ins_law ho c r p (rises_tail hr) (bsAt_tail h) (by simpa [foundF] using hf)
    simp only [insS, if_neg h2, ← ih]
    simp [insAt]
theorem found_law {α : Type} {cmp : α → α → Int} (ho : CmpOrd cmp) (c : α) : ∀ (xs : List α) (p : Nat), risesF cmp xs = true → bsAt cmp xs p c → (foundF cmp xs p c = true ↔ c ∈ xs)
  | [], p, _, h => by simp [foundF]
  | d :: r, 0, hr, h => by
    have h1 := h.2.2 d rfl
    have e : foundF cmp (d :: r) 0 c = decide (cmp d c = 0) := rfl
    rw [e, decide_eq_true_eq, ho.eq0]
    constructor
    · rintro rfl; simp
    · intro hm
      rcases List.mem_cons.1 hm with rfl | hm
      · rfl
      · exact absurd (rises_all ho hr c hm) h1
  | d :: r, p + 1, hr, h => by
    have h1 := bsAt_head ho hr h
    have ih := found_law ho c r p (rises_tail hr) (bsAt_tail h)
    have e : foundF cmp (d :: r) (p + 1) c = foundF cmp r p c := by simp [foundF]
    rw [e, ih]
    constructor
    · intro hm; exact List.mem_cons_of_mem _ hm
    · intro hm
      rcases List.mem_cons.1 hm with rfl | hm
      · exact absurd ((ho.eq0 c c).2 rfl) (by omega)
      · exact hm

theorem erase_law {α : Type} [DecidableEq α] {cmp : α → α → Int} (ho : CmpOrd cmp) (c : α) : ∀ (xs : List α) (p : Nat), risesF cmp xs = true → bsAt cmp xs p c → foundF cmp xs p c = true → xs.eraseIdx p = xs.filter (fun d => decide (d ≠ c))
  | [], p, _, h, _ => by simp
  | d :: r, 0, hr, h, hf => by
    have h2 : d = c := (ho.eq0 d c).1 (by simpa [foundF] using hf)
    subst h2
    have h3 : ∀ y ∈ r, decide (y ≠ d) = true := fun y hy => by
      have := rises_all ho hr y hy
      simp only [decide_eq_true_eq]
      rintro rfl
      exact absurd ((ho.eq0 y y).2 rfl) (by omega)
    simp only [List.eraseIdx_cons_zero, List.filter_cons, ne_eq, not_true_eq_false, decide_false, Bool.false_eq_true, if_false]
    exact (List.filter_eq_self.2 h3).symm
  | d :: r, p + 1, hr, h, hf => by
    have h1 := bsAt_head ho hr h
    have h2 : d ≠ c := by rintro rfl; exact absurd ((ho.eq0 d d).2 rfl) (by omega)
    have ih := erase_law ho c r p (rises_tail hr) (bsAt_tail h) (by simpa [foundF] using hf)
    simp only [List.eraseIdx_cons_succ, ih, List.filter_cons, h2, ne_eq, not_false_eq_true, decide_true, if_true]

/-- tick's end: those of the tick ahead, the others behind, in a list that rises by its ticks and has none earlier. -/
theorem tick_law (now : Int) : ∀ (xs : List Tm) (k : Nat), risesF tmCmp xs = true → (∀ y ∈ xs, now ≤ y.t) → k ≤ xs.length → (∀ y ∈ xs.take k, y.t = now) → (∀ z, xs[k]? = some z → z.t ≠ now) →
    xs.take k = xs.filter (fun y => decide (y.t = now)) ∧ xs.drop k = xs.filter (fun y => decide (y.t ≠ now))
  | [], k, _, _, _, _, _ => by simp
  | d :: r, 0, hr, hge, _, _, hz => by
    have h1 : d.t ≠ now := hz d rfl
    have h2 : now < d.t := by have := hge d (by simp); omega
    have h3 : ∀ y ∈ d :: r, y.t ≠ now := fun y hy => by
      rcases List.mem_cons.1 hy with rfl | hy
      · exact h1
      · have := rises_all tmOrd hr y hy
        simp only [tmCmp, timerCmp_lt] at this
        omega
    constructor
    · rw [List.take_zero]
      exact (List.filter_eq_nil_iff.2 fun y hy => by simpa using h3 y hy).symm
    · rw [List.drop_zero]
      exact (List.filter_eq_self.2 fun y hy => by simpa using h3 y hy).symm
  | d :: r, k + 1, hr, hge, hk, ht, hz => by
    have h1 : d.t = now := ht d (by simp)
    obtain ⟨i1, i2⟩ := tick_law now r k (rises_tail hr) (fun y hy => hge y (List.mem_cons_of_mem _ hy)) (by simpa using hk) (fun y hy => ht y (by simp [hy])) (fun z h => hz z (by simpa using h))
    constructor
    · simp [List.take_succ_cons, i1, h1]
    · simp [List.drop_succ_cons, i2, h1]
end Go.Proofs.YthlbmcfliejdiaaGreat
end

section
set_option linter.unusedVariables false
set_option linter.unusedSimpArgs false
namespace Go.Proofs.YthlbmcfliejdiaaGreat
open Go.RowKit

theorem ixF_erase {α : Type} (p : α → Bool) : ∀ (xs : List α) (k : Int), 0 ≤ k → (if 0 ≤ ixF p xs k then xs.eraseIdx (ixF p xs k - k).toNat else xs) = xs.eraseP p
  | [], k, _ => by simp [ixF]
  | x :: r, k, hk => by
    have ih := ixF_erase p r (k + 1) (by omega)
    by_cases hp : p x = true
    · simp [ixF, hp, hk]
    · have hp' : p x = false := by simpa using hp
      have e : ixF p (x :: r) k = ixF p r (k + 1) := by simp [ixF, hp']
      rw [e, List.eraseP_cons_of_neg hp, ← ih]
      rcases ixF_in p r (k + 1) (by omega) with h | ⟨i, hi, h⟩
      · simp [h]
      · rw [h, if_pos (by omega), if_pos (by omega)]
        have h1 : (k + 1 + (i : Int) - k).toNat = i + 1 := by omega
        have h2 : (k + 1 + (i : Int) - (k + 1)).toNat = i := by omega
        rw [h1, h2]
        rfl
theorem drop_eraseP (nd tg : Int) (xs : List Tm) : tmDrop nd tg xs = xs.eraseP (isTm nd tg) := by
  have h := ixF_erase (isTm nd tg) xs 0 (by omega)
  simpa [tmDrop] using h
theorem eraseP_filter (nd tg : Int) : ∀ (xs : List Tm), (xs.map fun t => (t.node, t.tag)).Nodup → xs.eraseP (isTm nd tg) = xs.filter (fun t => !isTm nd tg t)
  | [], _ => rfl
  | x :: r, h => by
    simp only [List.map_cons, List.nodup_cons] at h
    by_cases hp : isTm nd tg x = true
    · have h1 : ∀ y ∈ r, (!isTm nd tg y) = true := fun y hy => by
        cases hy2 : isTm nd tg y
        · rfl
        · exfalso
          simp only [isTm, Bool.and_eq_true, decide_eq_true_eq] at hp hy2
          exact h.1 (List.mem_map.2 ⟨y, hy, by rw [hp.1, hp.2, hy2.1, hy2.2]⟩)
      rw [List.eraseP_cons_of_pos hp, List.filter_cons]
      simp only [hp, Bool.not_true, Bool.false_eq_true, if_false]
      exact (List.filter_eq_self.2 h1).symm
    · have hp' : isTm nd tg x = false := by simpa using hp
      rw [List.eraseP_cons_of_neg hp, List.filter_cons, eraseP_filter nd tg r h.2]
      simp [hp']
theorem rises_pair {α : Type} {cmp : α → α → Int} (ho : CmpOrd cmp) : ∀ (xs : List α), risesF cmp xs = true ↔ xs.Pairwise (fun x y => cmp x y < 0)
  | [] => by simp [risesF]
  | [x] => by simp [risesF]
  | x :: y :: r => by
    have ih := rises_pair ho (y :: r)
    constructor
    · intro h
      exact List.pairwise_cons.2 ⟨rises_all ho h, ih.1 (rises_tail h)⟩
    · intro h
      obtain ⟨h1, h2⟩ := List.pairwise_cons.1 h
      simp only [risesF, Bool.and_eq_true, decide_eq_true_eq]
      exact ⟨h1 y (by simp), ih.2 h2⟩
theorem rises_filter {α : Type} {cmp : α → α → Int} (ho : CmpOrd cmp) (q : α → Bool) {xs : List α} (h : risesF cmp xs = true) : risesF cmp (xs.filter q) = true :=
  (rises_pair ho _).2 (((rises_pair ho xs).1 h).filter q)
end Go.Proofs.YthlbmcfliejdiaaGreat
end

section
set_option linter.unusedVariables false
set_option linter.unusedSimpArgs false
namespace Go.Proofs.YthlbmcfliejdiaaGreat
open Go.RowKit

/-- What an operation returns: the network, a number, a letter, timers, an error. -/
structure Rs where
  x : Nt
  id : Int
  l : Lt
  ts : List Tm
  e : Int
  deriving DecidableEq
/-- An act, and what was seen of one. -/
structure Ac where
  k : Int
  a : Int
  b : Int
  n : Int
  data : ByteArray
  deriving DecidableEq
structure Sn where
  a : Ac
  e : Int
  now : Int
  l : Lt
  ts : List Tm
  deriving DecidableEq
def errR (e : Int) : Rs := ⟨zNt, 0, zLt, [], e⟩
def zAc : Ac := ⟨0, 0, 0, 0, ⟨#[]⟩⟩
def zSn : Sn := ⟨zAc, 0, 0, zLt, []⟩

/-! The operations on a well-formed network. -/
def sendM (x : Nt) (fr to : Int) (data : ByteArray) : Rs :=
  if sendB x fr to data = false then errR 1 else if x.next = 1099511627776 then errR 3 else if x.way.length = 200 then errR 7
  else ⟨{ x with next := x.next + 1, way := x.way ++ [⟨x.next, fr, to, x.now, data⟩] }, x.next, ⟨x.next, fr, to, x.now, data⟩, [], 0⟩
def deliverM (x : Nt) (i : Int) : Rs :=
  if hasB x.way.length i = false then errR 4 else match x.way[i.toNat]? with
  | none => errR 4
  | some l => if canB x l = false then errR 6 else ⟨{ x with way := x.way.eraseIdx i.toNat }, 0, l, [], 0⟩
def loseM (x : Nt) (i : Int) : Rs :=
  if hasB x.way.length i = false then errR 4 else match x.way[i.toNat]? with
  | none => errR 4
  | some l => ⟨{ x with way := x.way.eraseIdx i.toNat }, 0, l, [], 0⟩
def doubleM (x : Nt) (i : Int) : Rs :=
  if hasB x.way.length i = false then errR 4 else if x.way.length = 200 then errR 7 else match x.way[i.toNat]? with
  | none => errR 4
  | some l => ⟨{ x with way := x.way ++ [l] }, 0, l, [], 0⟩
def delayM (x : Nt) (i n : Int) : Rs :=
  if hasB x.way.length i = false then errR 4 else if n < 0 ∨ 1000 < n then errR 1 else match x.way[i.toNat]? with
  | none => errR 4
  | some l => ⟨{ x with way := x.way.set i.toNat { l with rd := x.now + n } }, 0, { l with rd := x.now + n }, [], 0⟩
def cutM (x : Nt) (a b : Int) : Rs :=
  if twoB x.nodes a b = false then errR 1 else if mkLk a b ∈ x.cuts then errR 5 else ⟨{ x with cuts := insS lkCmp (mkLk a b) x.cuts }, 0, zLt, [], 0⟩
def healM (x : Nt) (a b : Int) : Rs :=
  if twoB x.nodes a b = false then errR 1 else if mkLk a b ∈ x.cuts then ⟨{ x with cuts := x.cuts.filter (fun d => decide (d ≠ mkLk a b)) }, 0, zLt, [], 0⟩ else errR 4
def othersF (nd tg : Int) (l : List Tm) : List Tm := l.filter (fun t => !isTm nd tg t)
def setM (x : Nt) (nd tg n : Int) : Rs :=
  if setB x.nodes nd tg n = false then errR 1 else if (othersF nd tg x.timers).length = 64 then errR 7
  else ⟨{ x with timers := insS tmCmp ⟨x.now + n, nd, tg⟩ (othersF nd tg x.timers) }, 0, zLt, [], 0⟩
def stopM (x : Nt) (nd tg : Int) : Rs :=
  if stopB x.nodes nd tg = false then errR 1 else if (othersF nd tg x.timers).length = x.timers.length then errR 4
  else ⟨{ x with timers := othersF nd tg x.timers }, 0, zLt, [], 0⟩
def tickM (x : Nt) : Rs :=
  if x.now = 1099511627776 then errR 3
  else ⟨{ x with now := x.now + 1, timers := x.timers.filter (fun t => decide (t.t ≠ x.now + 1)) }, 0, zLt, x.timers.filter (fun t => decide (t.t = x.now + 1)), 0⟩

/-- An operation on any network. -/
def formR (x : Nt) (r : Rs) : Rs := if checkB x = false then errR 2 else r
def newR (n : Int) : Rs := if n < 1 ∨ 16 < n then errR 1 else ⟨⟨n, 0, 0, [], [], []⟩, 0, zLt, [], 0⟩
def actM (x : Nt) (a : Ac) : Rs :=
  if a.k = 1 then sendM x a.a a.b a.data else if a.k = 2 then deliverM x a.n else if a.k = 3 then loseM x a.n else if a.k = 4 then doubleM x a.n
  else if a.k = 5 then delayM x a.n a.b else if a.k = 6 then cutM x a.a a.b else if a.k = 7 then healM x a.a a.b else if a.k = 8 then setM x a.a a.b a.n
  else if a.k = 9 then stopM x a.a a.b else if a.k = 10 then tickM x else errR 1
/-- What an act leaves, and what is seen of it, on a well-formed network. -/
def doX (x : Nt) (a : Ac) : Nt := if (actM x a).e = 0 then (actM x a).x else x
def doS (x : Nt) (a : Ac) : Sn := if (actM x a).e = 0 then ⟨a, 0, (actM x a).x.now, (actM x a).l, (actM x a).ts⟩ else ⟨a, (actM x a).e, x.now, zLt, []⟩
/-- .. on any network. -/
def doXR (x : Nt) (a : Ac) : Nt := if checkB x = false then zNt else doX x a
def doSR (x : Nt) (a : Ac) : Sn := if checkB x = false then zSn else doS x a
def doER (x : Nt) : Int := if checkB x = false then 2 else 0
def playX : Nt → List Ac → Nt
  | x, [] => x
  | x, a :: l => playX (doXR x a) l
def playS : Nt → List Ac → List Sn
  | _, [] => []
  | x, a :: l => doSR x a :: playS (doXR x a) l
def auditF : Nt → List Sn → Int → Int × Int
  | _, [], _ => (0, 0)
  | x, s :: l, i => if doSR x s.a = s then auditF (doXR x s.a) l (i + 1) else (9, i)

/-! What a well-formed network is good for. -/
structure Ok (x : Nt) : Prop where
  n1 : 1 ≤ x.nodes
  n2 : x.nodes ≤ 16
  t0 : 0 ≤ x.now
  t1 : x.now ≤ 1099511627776
  s0 : 0 ≤ x.next
  s1 : x.next ≤ 1099511627776
  way : x.way.length ≤ 200
  tms : x.timers.length ≤ 64
  risC : risesF lkCmp x.cuts = true
  risT : risesF tmCmp x.timers = true
  lts : ∀ l ∈ x.way, isLetterB x.nodes x.next l = true
  lks : ∀ c ∈ x.cuts, linkB x.nodes c = true
  tmo : tmsB x.nodes x.now [] x.timers = true
theorem ok_iff (x : Nt) : checkB x = true ↔ Ok x := by
  unfold checkB
  simp only [Bool.and_eq_true, decide_eq_true_eq, List.all_eq_true]
  constructor
  · rintro ⟨⟨⟨⟨⟨⟨⟨⟨⟨⟨⟨⟨a, b⟩, c⟩, d⟩, e⟩, f⟩, g⟩, h⟩, i⟩, j⟩, k⟩, l⟩, m⟩
    exact ⟨a, b, c, d, e, f, g, h, i, j, k, l, m⟩
  · rintro ⟨a, b, c, d, e, f, g, h, i, j, k, l, m⟩
    exact ⟨⟨⟨⟨⟨⟨⟨⟨⟨⟨⟨⟨a, b⟩, c⟩, d⟩, e⟩, f⟩, g⟩, h⟩, i⟩, j⟩, k⟩, l⟩, m⟩
theorem tmsB_iff (nodes now : Int) : ∀ (ts : List Tm) (seen : List (Int × Int)), tmsB nodes now seen ts = true ↔
    (∀ t ∈ ts, isTimerB nodes now t = true) ∧ (ts.map fun t => (t.node, t.tag)).Nodup ∧ ∀ t ∈ ts, (t.node, t.tag) ∉ seen
  | [], seen => by simp [tmsB]
  | t :: r, seen => by
    unfold tmsB
    rw [Bool.and_eq_true, Bool.and_eq_true, tmsB_iff nodes now r]
    simp only [List.mem_cons, forall_eq_or_imp, List.map_cons, List.nodup_cons, List.mem_append, List.mem_singleton, Bool.not_eq_true', decide_eq_false_iff_not, List.mem_map, not_exists, not_and, not_or, List.not_mem_nil, or_false]
    constructor
    · rintro ⟨⟨h1, h2⟩, h3, h4, h5⟩
      exact ⟨⟨h1, h3⟩, ⟨fun y hy he => (h5 y hy).2 he, h4⟩, h2, fun y hy => (h5 y hy).1⟩
    · rintro ⟨⟨h1, h3⟩, ⟨h6, h4⟩, h2, h5⟩
      exact ⟨⟨h1, h2⟩, h3, h4, fun y hy => ⟨h5 y hy, h6 y hy⟩⟩
theorem Ok.nodupT {x : Nt} (h : Ok x) : (x.timers.map fun t => (t.node, t.tag)).Nodup := ((tmsB_iff _ _ _ _).1 h.tmo).2.1
theorem Ok.isT {x : Nt} (h : Ok x) : ∀ t ∈ x.timers, isTimerB x.nodes x.now t = true := ((tmsB_iff _ _ _ _).1 h.tmo).1
theorem rises_nodup {α : Type} {cmp : α → α → Int} (ho : CmpOrd cmp) {xs : List α} (h : risesF cmp xs = true) : xs.Nodup := by
  refine ((rises_pair ho xs).1 h).imp ?_
  rintro a b hab rfl
  exact ho.flip a a hab hab
theorem nodup_prL {xs : List Lk} (h : xs.Nodup) : (xs.map prL).Nodup := by
  refine List.Pairwise.map prL (R := fun a b => a ≠ b) ?_ h
  rintro ⟨a, b⟩ ⟨c, d⟩ hne he
  simp only [prL, Prod.mk.injEq] at he
  exact hne (by rw [he.1, he.2])
theorem Ok.nodupC {x : Nt} (h : Ok x) : (x.cuts.map prL).Nodup := nodup_prL (rises_nodup lkOrd h.risC)
/-- A list of numbers that increases strictly, within bounds, is short. -/
theorem short_rise : ∀ (xs : List Int) (lo hi : Int), xs.Pairwise (· < ·) → (∀ y ∈ xs, lo ≤ y ∧ y < hi) → (xs.length : Int) ≤ max (hi - lo) 0
  | [], lo, hi, _, _ => by simp only [List.length_nil]; omega
  | y :: r, lo, hi, hp, hb => by
    have h1 := hb y (by simp)
    have h2 := short_rise r (y + 1) hi (List.pairwise_cons.1 hp).2 (fun z hz => ⟨by have := (List.pairwise_cons.1 hp).1 z hz; omega, (hb z (by simp [hz])).2⟩)
    simp only [List.length_cons]
    omega
theorem Ok.cuts256 {x : Nt} (h : Ok x) : x.cuts.length ≤ 256 := by
  have hp := (rises_pair lkOrd x.cuts).1 h.risC
  have hb : ∀ c ∈ x.cuts, 0 ≤ c.a ∧ c.a < 16 ∧ 0 ≤ c.b ∧ c.b < 16 := fun c hc => by
    have := h.lks c hc
    simp only [linkB, isNodeB, Bool.and_eq_true, decide_eq_true_eq] at this
    have := h.n2
    omega
  have h1 : (x.cuts.map fun c => c.a * 16 + c.b).Pairwise (· < ·) := by
    refine List.pairwise_map.2 (hp.imp_of_mem ?_)
    intro a b ha hb' hab
    have a1 := hb a ha
    have b1 := hb b hb'
    have := (linkCmp_lt _ _ _ _).1 hab
    omega
  have h2 := short_rise _ 0 256 h1 (fun y hy => by
    obtain ⟨c, hc, rfl⟩ := List.mem_map.1 hy
    have := hb c hc
    omega)
  rw [List.length_map] at h2
  omega
theorem mem_prL (c : Lk) (xs : List Lk) : (c.a, c.b) ∈ xs.map prL ↔ c ∈ xs := by
  constructor
  · intro h
    obtain ⟨d, hd, he⟩ := List.mem_map.1 h
    simp only [prL, Prod.mk.injEq] at he
    have : d = c := by cases d; cases c; simp only [Lk.mk.injEq]; exact he
    rw [← this]; exact hd
  · intro h
    exact List.mem_map.2 ⟨c, h, rfl⟩
theorem mem_rdy (x : Nt) (i : Nat) : i ∈ rdyF x ↔ ∃ l, x.way[i]? = some l ∧ canB x l = true := by
  unfold rdyF rdyTo
  rw [List.mem_filter, List.mem_range]
  unfold canI
  cases h : x.way[i]? with
  | none => simp
  | some l => simp [(List.getElem?_eq_some_iff.1 h).1]
theorem others_drop {x : Nt} (h : Ok x) (nd tg : Int) : tmDrop nd tg x.timers = othersF nd tg x.timers := by
  rw [drop_eraseP, eraseP_filter nd tg x.timers h.nodupT]; rfl

/-! The operations keep a network well-formed. -/
theorem mem_insS {α : Type} (cmp : α → α → Int) (c d : α) : ∀ (xs : List α), d ∈ insS cmp c xs ↔ d = c ∨ d ∈ xs
  | [] => by simp [insS]
  | y :: r => by
    unfold insS
    split
    · simp
    · rw [List.mem_cons, mem_insS cmp c d r, List.mem_cons]
      constructor
      · rintro (h | h | h) <;> simp [h]
      · rintro (h | h | h) <;> simp [h]
theorem perm_insS {α : Type} (cmp : α → α → Int) (c : α) : ∀ (xs : List α), (insS cmp c xs).Perm (c :: xs)
  | [] => List.Perm.refl _
  | y :: r => by
    unfold insS
    split
    · exact List.Perm.refl _
    · exact ((perm_insS cmp c r).cons y).trans (List.Perm.swap c y r)
theorem rises_insS {α : Type} {cmp : α → α → Int} (ho : CmpOrd cmp) (c : α) (xs : List α) (hr : risesF cmp xs = true) (hc : c ∉ xs) : risesF cmp (insS cmp c xs) = true := by
  rw [rises_pair ho] at hr ⊢
  induction xs with
  | nil => simp [insS]
  | cons y r ih =>
    obtain ⟨h1, h2⟩ := List.pairwise_cons.1 hr
    unfold insS
    split
    · rename_i hlt
      exact List.pairwise_cons.2 ⟨fun z hz => by
        rcases List.mem_cons.1 hz with rfl | hz
        · exact hlt
        · exact ho.trans _ _ _ hlt (h1 z hz), hr⟩
    · rename_i hlt
      refine List.pairwise_cons.2 ⟨fun z hz => ?_, ih h2 (fun h => hc (by simp [h]))⟩
      rcases (mem_insS cmp c z r).1 hz with rfl | hz
      · rcases ho.tot y z with h | h | h
        · exact h
        · exact absurd (by simp [h]) hc
        · exact absurd h hlt
      · exact h1 z hz
theorem linkB_mk {nodes p q : Int} (h1 : 0 ≤ p) (h2 : p < nodes) (h3 : 0 ≤ q) (h4 : q < nodes) (h : p < q) : linkB nodes ⟨p, q⟩ = true := by
  simp [linkB, isNodeB, *]
theorem mkLk_or (a b : Int) : mkLk a b = ⟨a, b⟩ ∧ a ≤ b ∨ mkLk a b = ⟨b, a⟩ ∧ b < a := by
  rcases Int.lt_or_le b a with h | h
  · exact .inr ⟨by show Lk.mk (min a b) (max a b) = _; rw [Int.min_eq_right (by omega), Int.max_eq_left (by omega)], h⟩
  · exact .inl ⟨by show Lk.mk (min a b) (max a b) = _; rw [Int.min_eq_left (by omega), Int.max_eq_right (by omega)], h⟩
theorem min_max_link {nodes a b : Int} (h : twoB nodes a b = true) : linkB nodes (mkLk a b) = true := by
  simp only [twoB, isNodeB, Bool.and_eq_true, decide_eq_true_eq] at h
  obtain ⟨⟨⟨h1, h2⟩, h3, h4⟩, h5⟩ := h
  rcases mkLk_or a b with ⟨e, h⟩ | ⟨e, h⟩
  · rw [e]; exact linkB_mk h1 h2 h3 h4 (by omega)
  · rw [e]; exact linkB_mk h3 h4 h1 h2 (by omega)
theorem letter_mono {nodes n m : Int} {l : Lt} (h : isLetterB nodes n l = true) (hnm : n ≤ m) : isLetterB nodes m l = true := by
  simp only [isLetterB, Bool.and_eq_true, decide_eq_true_eq] at h ⊢
  obtain ⟨⟨⟨⟨⟨⟨⟨a, b⟩, c⟩, d⟩, e⟩, f⟩, g⟩, k⟩ := h
  exact ⟨⟨⟨⟨⟨⟨⟨a, b⟩, c⟩, d⟩, by omega⟩, f⟩, g⟩, k⟩
theorem mem_at {α : Type} {xs : List α} {i : Nat} {x : α} (h : xs[i]? = some x) : x ∈ xs := by
  obtain ⟨hi, rfl⟩ := List.getElem?_eq_some_iff.1 h
  exact List.getElem_mem hi
theorem send_keeps {x : Nt} (h : Ok x) (fr to : Int) (data : ByteArray) (he : (sendM x fr to data).e = 0) : Ok (sendM x fr to data).x := by
  unfold sendM at he ⊢
  split at he
  · simp [errR] at he
  rename_i h1
  split at he
  · simp [errR] at he
  rename_i h2
  split at he
  · simp [errR] at he
  rename_i h3
  rw [if_neg h1, if_neg h2, if_neg h3]
  have hw := h.way
  have hs0 := h.s0
  have hs1 := h.s1
  have ht0 := h.t0
  have ht1 := h.t1
  refine ⟨h.n1, h.n2, h.t0, h.t1, by show 0 ≤ x.next + 1; omega, by show x.next + 1 ≤ _; omega, by simp only [List.length_append, List.length_cons, List.length_nil]; omega, h.tms, h.risC, h.risT, ?_, h.lks, h.tmo⟩
  intro l hl
  rcases List.mem_append.1 hl with hl | hl
  · exact letter_mono (h.lts l hl) (by show x.next ≤ x.next + 1; omega)
  · obtain rfl := List.mem_singleton.1 hl
    simp only [sendB, Bool.not_eq_false, Bool.and_eq_true, decide_eq_true_eq] at h1
    simp only [isLetterB, Bool.and_eq_true, decide_eq_true_eq]
    obtain ⟨⟨⟨a, b⟩, c⟩, d⟩ := h1
    exact ⟨⟨⟨⟨⟨⟨⟨a, b⟩, c⟩, by omega⟩, by omega⟩, by omega⟩, by omega⟩, d⟩
theorem erase_keeps {x : Nt} (h : Ok x) (i : Nat) : Ok { x with way := x.way.eraseIdx i } := by
  refine ⟨h.n1, h.n2, h.t0, h.t1, h.s0, h.s1, ?_, h.tms, h.risC, h.risT, ?_, h.lks, h.tmo⟩
  · have := h.way
    show (x.way.eraseIdx i).length ≤ 200
    rw [List.length_eraseIdx]
    split <;> omega
  · intro l hl
    exact h.lts l (List.mem_of_mem_eraseIdx hl)
theorem deliver_keeps {x : Nt} (h : Ok x) (i : Int) (he : (deliverM x i).e = 0) : Ok (deliverM x i).x := by
  unfold deliverM at he ⊢
  split at he
  · simp [errR] at he
  rename_i h1
  rw [if_neg h1]
  split at he
  · simp [errR] at he
  rename_i l hl
  split at he
  · simp [errR] at he
  rename_i h2
  simp only [hl, if_neg h2]
  exact erase_keeps h _
theorem lose_keeps {x : Nt} (h : Ok x) (i : Int) (he : (loseM x i).e = 0) : Ok (loseM x i).x := by
  unfold loseM at he ⊢
  split at he
  · simp [errR] at he
  rename_i h1
  rw [if_neg h1]
  split at he
  · simp [errR] at he
  rename_i l hl
  simp only [hl]
  exact erase_keeps h _
theorem double_keeps {x : Nt} (h : Ok x) (i : Int) (he : (doubleM x i).e = 0) : Ok (doubleM x i).x := by
  unfold doubleM at he ⊢
  split at he
  · simp [errR] at he
  rename_i h1
  split at he
  · simp [errR] at he
  rename_i h2
  rw [if_neg h1, if_neg h2]
  split at he
  · simp [errR] at he
  rename_i l hl
  simp only [hl]
  have hw := h.way
  refine ⟨h.n1, h.n2, h.t0, h.t1, h.s0, h.s1, by simp only [List.length_append, List.length_cons, List.length_nil]; omega, h.tms, h.risC, h.risT, ?_, h.lks, h.tmo⟩
  intro m hm
  rcases List.mem_append.1 hm with hm | hm
  · exact h.lts m hm
  · obtain rfl := List.mem_singleton.1 hm
    exact h.lts m (mem_at hl)
theorem delay_keeps {x : Nt} (h : Ok x) (i n : Int) (he : (delayM x i n).e = 0) : Ok (delayM x i n).x := by
  unfold delayM at he ⊢
  split at he
  · simp [errR] at he
  rename_i h1
  split at he
  · simp [errR] at he
  rename_i h2
  rw [if_neg h1, if_neg h2]
  split at he
  · simp [errR] at he
  rename_i l hl
  simp only [hl]
  have ht0 := h.t0
  have ht1 := h.t1
  refine ⟨h.n1, h.n2, h.t0, h.t1, h.s0, h.s1, by simpa using h.way, h.tms, h.risC, h.risT, ?_, h.lks, h.tmo⟩
  intro m hm
  rcases List.mem_or_eq_of_mem_set hm with hm | rfl
  · exact h.lts m hm
  · have := h.lts l (mem_at hl)
    simp only [isLetterB, Bool.and_eq_true, decide_eq_true_eq] at this ⊢
    obtain ⟨⟨⟨⟨⟨⟨⟨a, b⟩, c⟩, d⟩, e⟩, f⟩, g⟩, k⟩ := this
    exact ⟨⟨⟨⟨⟨⟨⟨a, b⟩, c⟩, d⟩, e⟩, by omega⟩, by omega⟩, k⟩
theorem cut_keeps {x : Nt} (h : Ok x) (a b : Int) (he : (cutM x a b).e = 0) : Ok (cutM x a b).x := by
  unfold cutM at he ⊢
  split at he
  · simp [errR] at he
  rename_i h1
  split at he
  · simp [errR] at he
  rename_i h2
  rw [if_neg h1, if_neg h2]
  refine ⟨h.n1, h.n2, h.t0, h.t1, h.s0, h.s1, h.way, h.tms, rises_insS lkOrd _ _ h.risC h2, h.risT, h.lts, ?_, h.tmo⟩
  intro c hc
  rcases (mem_insS _ _ _ _).1 hc with rfl | hc
  · exact min_max_link (by simpa using h1)
  · exact h.lks c hc
theorem heal_keeps {x : Nt} (h : Ok x) (a b : Int) (he : (healM x a b).e = 0) : Ok (healM x a b).x := by
  unfold healM at he ⊢
  split at he
  · simp [errR] at he
  rename_i h1
  by_cases h2 : mkLk a b ∈ x.cuts
  case neg => rw [if_neg h2] at he; simp [errR] at he
  rw [if_neg h1, if_pos h2]
  exact ⟨h.n1, h.n2, h.t0, h.t1, h.s0, h.s1, h.way, h.tms, rises_filter lkOrd _ h.risC, h.risT, h.lts, fun c hc => h.lks c (List.mem_filter.1 hc).1, h.tmo⟩
theorem tms_sub {nodes now now' : Int} {ts ts' : List Tm} (h : tmsB nodes now [] ts = true) (hs : ts'.Sublist ts) (hn : ∀ t ∈ ts', now' < t.t) : tmsB nodes now' [] ts' = true := by
  obtain ⟨h1, h2, -⟩ := (tmsB_iff _ _ _ _).1 h
  refine (tmsB_iff _ _ _ _).2 ⟨fun t ht => ?_, h2.sublist (hs.map _), fun _ _ => by simp⟩
  have := h1 t (hs.subset ht)
  have hn' := hn t ht
  simp only [isTimerB, Bool.and_eq_true, decide_eq_true_eq] at this ⊢
  obtain ⟨⟨⟨⟨a, b⟩, c⟩, d⟩, e⟩ := this
  exact ⟨⟨⟨⟨a, b⟩, c⟩, hn'⟩, e⟩
theorem later {x : Nt} (h : Ok x) {t : Tm} (ht : t ∈ x.timers) : x.now < t.t := by
  have := h.isT t ht
  simp only [isTimerB, Bool.and_eq_true, decide_eq_true_eq] at this
  exact this.1.2
theorem others_len (nd tg : Int) (l : List Tm) : (othersF nd tg l).length ≤ l.length := List.length_filter_le _ _
theorem set_keeps {x : Nt} (h : Ok x) (nd tg n : Int) (he : (setM x nd tg n).e = 0) : Ok (setM x nd tg n).x := by
  unfold setM at he ⊢
  split at he
  · simp [errR] at he
  rename_i h1
  split at he
  · simp [errR] at he
  rename_i h2
  rw [if_neg h1, if_neg h2]
  have hl := others_len nd tg x.timers
  have ht := h.tms
  have ht0 := h.t0
  have ht1 := h.t1
  have hb : setB x.nodes nd tg n = true := by simpa using h1
  simp only [setB, stopB, Bool.and_eq_true, decide_eq_true_eq] at hb
  obtain ⟨⟨⟨⟨hb1, hb2⟩, hb3⟩, hb4⟩, hb5⟩ := hb
  have hno : ∀ t ∈ othersF nd tg x.timers, (t.node, t.tag) ≠ (nd, tg) := fun t ht he => by
    have := (List.mem_filter.1 ht).2
    simp only [Prod.mk.injEq] at he
    simp [isTm, he.1, he.2] at this
  have hsub : (othersF nd tg x.timers).Sublist x.timers := List.filter_sublist
  have hk := tms_sub h.tmo hsub (fun t ht => later h (hsub.subset ht))
  obtain ⟨k1, k2, -⟩ := (tmsB_iff _ _ _ _).1 hk
  refine ⟨h.n1, h.n2, h.t0, h.t1, h.s0, h.s1, h.way, ?_, h.risC, rises_insS tmOrd _ _ (rises_filter tmOrd _ h.risT) ?_, h.lts, h.lks, ?_⟩
  · show (insS _ _ _).length ≤ 64
    rw [(perm_insS _ _ _).length_eq, List.length_cons]
    omega
  · intro hm
    exact hno _ hm rfl
  · refine (tmsB_iff _ _ _ _).2 ⟨fun t ht => ?_, ?_, fun _ _ => by simp⟩
    · rcases (mem_insS _ _ _ _).1 ht with rfl | ht
      · simp only [isTimerB, Bool.and_eq_true, decide_eq_true_eq]
        exact ⟨⟨⟨⟨hb1, hb2⟩, hb3⟩, by omega⟩, by omega⟩
      · exact k1 t ht
    · refine (((perm_insS tmCmp ⟨x.now + n, nd, tg⟩ (othersF nd tg x.timers)).map fun t => (t.node, t.tag)).nodup_iff).2 ?_
      rw [List.map_cons, List.nodup_cons]
      refine ⟨fun hm => ?_, k2⟩
      obtain ⟨t, ht, he⟩ := List.mem_map.1 hm
      exact hno t ht he
theorem stop_keeps {x : Nt} (h : Ok x) (nd tg : Int) (he : (stopM x nd tg).e = 0) : Ok (stopM x nd tg).x := by
  unfold stopM at he ⊢
  split at he
  · simp [errR] at he
  rename_i h1
  split at he
  · simp [errR] at he
  rename_i h2
  rw [if_neg h1, if_neg h2]
  have hsub : (othersF nd tg x.timers).Sublist x.timers := List.filter_sublist
  exact ⟨h.n1, h.n2, h.t0, h.t1, h.s0, h.s1, h.way, Nat.le_trans hsub.length_le h.tms, h.risC, rises_filter tmOrd _ h.risT, h.lts, h.lks, tms_sub h.tmo hsub (fun t ht => later h (hsub.subset ht))⟩
theorem tick_keeps {x : Nt} (h : Ok x) (he : (tickM x).e = 0) : Ok (tickM x).x := by
  unfold tickM at he ⊢
  split at he
  · simp [errR] at he
  rename_i h1
  rw [if_neg h1]
  have ht0 := h.t0
  have ht1 := h.t1
  have hsub : (x.timers.filter (fun t => decide (t.t ≠ x.now + 1))).Sublist x.timers := List.filter_sublist
  refine ⟨h.n1, h.n2, by show 0 ≤ x.now + 1; omega, by show x.now + 1 ≤ _; omega, h.s0, h.s1, h.way, Nat.le_trans hsub.length_le h.tms, h.risC, rises_filter tmOrd _ h.risT, h.lts, h.lks, tms_sub h.tmo hsub (fun t ht => ?_)⟩
  have h2 := later h (hsub.subset ht)
  have h3 := (List.mem_filter.1 ht).2
  simp only [ne_eq, decide_eq_true_eq] at h3
  show x.now + 1 < t.t
  omega
theorem act_keeps {x : Nt} (h : Ok x) (a : Ac) (he : (actM x a).e = 0) : Ok (actM x a).x := by
  unfold actM at he ⊢
  repeat' split at he
  all_goals first
    | (simp only [*, if_true, if_false]; first | exact send_keeps h _ _ _ he | exact deliver_keeps h _ he | exact lose_keeps h _ he | exact double_keeps h _ he | exact delay_keeps h _ _ he | exact cut_keeps h _ _ he | exact heal_keeps h _ _ he | exact set_keeps h _ _ _ he | exact stop_keeps h _ _ he | exact tick_keeps h he)
    | (simp [errR] at he)
theorem do_keeps {x : Nt} (h : Ok x) (a : Ac) : Ok (doX x a) := by
  unfold doX
  split
  · exact act_keeps h a ‹_›
  · exact h
theorem new_ok {n : Int} (h : (newR n).e = 0) : Ok (newR n).x := by
  unfold newR at h ⊢
  split at h
  · simp [errR] at h
  rename_i h1
  rw [if_neg h1]
  have h2 : 1 ≤ n ∧ n ≤ 16 := by omega
  exact ⟨h2.1, h2.2, by simp, by simp, by simp, by simp, by simp, by simp, rfl, rfl, by simp, by simp, rfl⟩
theorem doXR_ok {x : Nt} (h : Ok x) (a : Ac) : doXR x a = doX x a := by unfold doXR; rw [if_neg (by simp [(ok_iff x).2 h])]
theorem doSR_ok {x : Nt} (h : Ok x) (a : Ac) : doSR x a = doS x a := by unfold doSR; rw [if_neg (by simp [(ok_iff x).2 h])]
theorem play_keeps : ∀ {x : Nt} (l : List Ac), Ok x → Ok (playX x l)
  | x, [], h => h
  | x, a :: l, h => by unfold playX; rw [doXR_ok h]; exact play_keeps l (do_keeps h a)
end Go.Proofs.YthlbmcfliejdiaaGreat
end

section
set_option linter.unusedVariables false
set_option linter.unusedSimpArgs false
namespace Go.Proofs.YthlbmcfliejdiaaGreat
open Go.RowKit

/-- What a method leaves: behind an error nothing but new blocks; else the network changed. -/
def mthW (B g : Nat) (w : World) (r : Rs) (w' : World) : Prop := (r.e ≠ 0 ∧ Below w.heap.size w w') ∨ (r.e = 0 ∧ St w' B g r.x ∧ Below B w w' ∧ Frm w w' g)
def ltQ (B g : Nat) (w : World) (r : Rs) (e : Ending) (w' : World) : Prop := e = .returned (.tuple #[.agg #[.int .i64 r.l.id, .int .i64 r.l.fr, .int .i64 r.l.to, .int .i64 r.l.rd, .string r.l.data], .int .i64 r.e]) ∧ mthW B g w r w'
def plQ (B g : Nat) (w : World) (r : Rs) (e : Ending) (w' : World) : Prop := e = .returned (.int .i64 r.e) ∧ mthW B g w r w'
def tkQ (B g : Nat) (w : World) (r : Rs) (e : Ending) (w' : World) : Prop := ∃ v, e = .returned (.tuple #[v, .int .i64 r.e]) ∧ Own w' B 86 v r.ts ∧ mthW B g w r w'

theorem ltQ_err {B g : Nat} {w : World} {r : Rs} {k : Int} (hr : r = errR k) (hk : k ≠ 0) {e : Ending} {w' : World} (h : e = .returned (.tuple #[.agg #[.int .i64 zLt.id, .int .i64 zLt.fr, .int .i64 zLt.to, .int .i64 zLt.rd, .string zLt.data], .int .i64 k]) ∧ Below w.heap.size w w') : ltQ B g w r e w' := by
  subst hr; exact ⟨h.1, .inl ⟨hk, h.2⟩⟩
theorem plQ_err {B g : Nat} {w : World} {r : Rs} {k : Int} (hr : r = errR k) (hk : k ≠ 0) {e : Ending} {w' : World} (h : e = .returned (.int .i64 k) ∧ Below w.heap.size w w') : plQ B g w r e w' := by
  subst hr; exact ⟨h.1, .inl ⟨hk, h.2⟩⟩
theorem has_at {x : Nt} {i : Int} (h : hasB x.way.length i = true) : ∃ n : Nat, ∃ l, i = n ∧ x.way[n]? = some l ∧ x.way[i.toNat]? = some l := by
  simp only [hasB, Bool.and_eq_true, decide_eq_true_eq] at h
  obtain ⟨n, rfl⟩ := Int.eq_ofNat_of_zero_le h.1
  have hn : n < x.way.length := by omega
  exact ⟨n, x.way[n], rfl, List.getElem?_eq_getElem hn, by simp⟩

theorem send_m (B g : Nat) (x : Nt) (fr to : Int) (data : ByteArray) (w : World) (hS : St w B g x) (hx : Ok x) (hB : B ≤ w.heap.size) :
    Calls Tryz.prog 37 #[.pointer (some ⟨g, 0, none⟩), .int .i64 fr, .int .i64 to, .string data] w (ltQ B g w (sendM x fr to data)) := by
  cases h1 : sendB x fr to data
  · exact (send_arg B g x fr to data w hS h1).mono fun e w' h => ltQ_err (by simp [sendM, h1]) (by decide) h
  · by_cases h2 : x.next = 1099511627776
    · exact (send_lim B g x fr to data w hS h1 h2).mono fun e w' h => ltQ_err (by simp [sendM, h1, h2]) (by decide) h
    · by_cases h3 : x.way.length = 200
      · exact (send_full B g x fr to data w hS h1 h2 h3).mono fun e w' h => ltQ_err (by simp [sendM, h1, h2, h3]) (by decide) h
      · have hw := hx.way
        have hs := hx.s1
        refine (send_ok B g x fr to data w hS h1 h2 (by omega) hB hx.s0 (by omega)).mono fun e w' h => ?_
        have hr : sendM x fr to data = ⟨{ x with next := x.next + 1, way := x.way ++ [⟨x.next, fr, to, x.now, data⟩] }, x.next, ⟨x.next, fr, to, x.now, data⟩, [], 0⟩ := by simp [sendM, h1, h2, h3]
        rw [hr]
        exact ⟨h.1, .inr ⟨rfl, h.2⟩⟩
theorem deliver_m (B g : Nat) (x : Nt) (i : Int) (w : World) (hS : St w B g x) (hx : Ok x) (hB : B ≤ w.heap.size) :
    Calls Tryz.prog 42 #[.pointer (some ⟨g, 0, none⟩), .int .i64 i] w (ltQ B g w (deliverM x i)) := by
  cases h1 : hasB x.way.length i
  · exact (deliver_none B g x i w hS h1).mono fun e w' h => ltQ_err (by simp [deliverM, h1]) (by decide) h
  · obtain ⟨n, l, rfl, hl, hl2⟩ := has_at h1
    have hw := hx.way
    have hc := hx.cuts256
    refine (deliver_any B g n x l w hS hB hl hx.nodupC (by omega) (by omega)).mono fun e w' h => ?_
    rcases h with ⟨hm, h⟩ | ⟨hm, h⟩
    · have hcan : canB x l = false := by
        cases hc : canB x l
        · rfl
        · exact absurd ((mem_rdy x n).2 ⟨l, hl, hc⟩) hm
      refine ltQ_err ?_ (by decide) h
      unfold deliverM
      rw [if_neg (by rw [h1]; decide), hl2]
      simp [hcan]
    · obtain ⟨l', hl', hcan⟩ := (mem_rdy x n).1 hm
      obtain rfl : l = l' := by rw [hl] at hl'; injection hl'
      have hr : deliverM x n = ⟨{ x with way := x.way.eraseIdx n }, 0, l, [], 0⟩ := by
        unfold deliverM
        rw [if_neg (by rw [h1]; decide), hl2]
        simp [hcan]
      rw [hr]
      exact ⟨h.1, .inr ⟨rfl, h.2⟩⟩
theorem lose_m (B g : Nat) (x : Nt) (i : Int) (w : World) (hS : St w B g x) (hx : Ok x) (hB : B ≤ w.heap.size) :
    Calls Tryz.prog 48 #[.pointer (some ⟨g, 0, none⟩), .int .i64 i] w (ltQ B g w (loseM x i)) := by
  cases h1 : hasB x.way.length i
  · exact (lose_none B g x i w hS h1).mono fun e w' h => ltQ_err (by simp [loseM, h1]) (by decide) h
  · obtain ⟨n, l, rfl, hl, hl2⟩ := has_at h1
    refine (lose_ok B g n x l w hS hB hl).mono fun e w' h => ?_
    have hr : loseM x n = ⟨{ x with way := x.way.eraseIdx n }, 0, l, [], 0⟩ := by
      unfold loseM
      rw [if_neg (by rw [h1]; decide), hl2]
      simp
    rw [hr]
    exact ⟨h.1, .inr ⟨rfl, h.2.1, h.2.2.1, h.2.2.2.1⟩⟩
theorem double_m (B g : Nat) (x : Nt) (i : Int) (w : World) (hS : St w B g x) (hx : Ok x) (hB : B ≤ w.heap.size) :
    Calls Tryz.prog 50 #[.pointer (some ⟨g, 0, none⟩), .int .i64 i] w (ltQ B g w (doubleM x i)) := by
  cases h1 : hasB x.way.length i
  · exact (double_none B g x i w hS h1).mono fun e w' h => ltQ_err (by simp [doubleM, h1]) (by decide) h
  · by_cases h3 : x.way.length = 200
    · exact (double_full B g x i w hS h1 h3).mono fun e w' h => ltQ_err (by unfold doubleM; rw [if_neg (by rw [h1]; decide), if_pos h3]) (by decide) h
    · obtain ⟨n, l, rfl, hl, hl2⟩ := has_at h1
      have hw := hx.way
      refine (double_ok B g n x l w hS hB hl (by omega)).mono fun e w' h => ?_
      have hr : doubleM x n = ⟨{ x with way := x.way ++ [l] }, 0, l, [], 0⟩ := by
        unfold doubleM
        rw [if_neg (by rw [h1]; decide), if_neg h3, hl2]
      rw [hr]
      exact ⟨h.1, .inr ⟨rfl, h.2⟩⟩
theorem delay_m (B g : Nat) (x : Nt) (i n : Int) (w : World) (hS : St w B g x) (hx : Ok x) (hB : B ≤ w.heap.size) :
    Calls Tryz.prog 52 #[.pointer (some ⟨g, 0, none⟩), .int .i64 i, .int .i64 n] w (ltQ B g w (delayM x i n)) := by
  cases h1 : hasB x.way.length i
  · exact (delay_none B g x i n w hS h1).mono fun e w' h => ltQ_err (by simp [delayM, h1]) (by decide) h
  · by_cases h3 : n < 0 ∨ 1000 < n
    · exact (delay_arg B g x i n w hS h1 h3).mono fun e w' h => ltQ_err (by unfold delayM; rw [if_neg (by rw [h1]; decide), if_pos h3]) (by decide) h
    · obtain ⟨j, l, rfl, hl, hl2⟩ := has_at h1
      refine (delay_ok B g j x n l w hS hB hl (by omega) (by omega) hx.t0 hx.t1).mono fun e w' h => ?_
      have hr : delayM x j n = ⟨{ x with way := x.way.set j { l with rd := x.now + n } }, 0, { l with rd := x.now + n }, [], 0⟩ := by
        unfold delayM
        rw [if_neg (by rw [h1]; decide), if_neg h3, hl2]
        simp
      rw [hr]
      exact ⟨h.1, .inr ⟨rfl, h.2⟩⟩
theorem cut_m (B g : Nat) (x : Nt) (a b : Int) (w : World) (hS : St w B g x) (hx : Ok x) (hB : B ≤ w.heap.size) :
    Calls Tryz.prog 63 #[.pointer (some ⟨g, 0, none⟩), .int .i64 a, .int .i64 b] w (plQ B g w (cutM x a b)) := by
  cases h1 : twoB x.nodes a b
  · exact (cut_arg B g x a b w hS h1).mono fun e w' h => plQ_err (by simp [cutM, h1]) (by decide) h
  · have hc := hx.cuts256
    refine (cut_ok B g x a b w hS h1 (by omega) hB).mono fun e w' h => ?_
    obtain ⟨p, hp, ⟨hf, h⟩ | ⟨hf, h⟩⟩ := h
    · have hm := (found_law lkOrd _ _ _ hx.risC hp).1 hf
      exact plQ_err (by unfold cutM; rw [if_neg (by rw [h1]; decide), if_pos hm]) (by decide) h
    · have hm : mkLk a b ∉ x.cuts := fun hm => by
        have := (found_law lkOrd _ _ _ hx.risC hp).2 hm
        rw [hf] at this; cases this
      have hr : cutM x a b = ⟨{ x with cuts := insS lkCmp (mkLk a b) x.cuts }, 0, zLt, [], 0⟩ := by unfold cutM; rw [if_neg (by rw [h1]; decide), if_neg hm]
      rw [hr]
      exact ⟨h.1, .inr ⟨rfl, by rw [← ins_law lkOrd _ _ _ hx.risC hp hf]; exact h.2.1, h.2.2⟩⟩
theorem heal_m (B g : Nat) (x : Nt) (a b : Int) (w : World) (hS : St w B g x) (hx : Ok x) (hB : B ≤ w.heap.size) :
    Calls Tryz.prog 84 #[.pointer (some ⟨g, 0, none⟩), .int .i64 a, .int .i64 b] w (plQ B g w (healM x a b)) := by
  cases h1 : twoB x.nodes a b
  · exact (heal_arg B g x a b w hS h1).mono fun e w' h => plQ_err (by simp [healM, h1]) (by decide) h
  · have hc := hx.cuts256
    refine (heal_ok B g x a b w hS h1 (by omega) hB).mono fun e w' h => ?_
    obtain ⟨p, hp, ⟨hf, h⟩ | ⟨hf, h⟩⟩ := h
    · have hm : mkLk a b ∉ x.cuts := fun hm => by
        have := (found_law lkOrd _ _ _ hx.risC hp).2 hm
        rw [hf] at this; cases this
      exact plQ_err (by unfold healM; rw [if_neg (by rw [h1]; decide), if_neg hm]) (by decide) h
    · have hm := (found_law lkOrd _ _ _ hx.risC hp).1 hf
      have hr : healM x a b = ⟨{ x with cuts := x.cuts.filter (fun d => decide (d ≠ mkLk a b)) }, 0, zLt, [], 0⟩ := by unfold healM; rw [if_neg (by rw [h1]; decide), if_pos hm]
      rw [hr]
      exact ⟨h.1, .inr ⟨rfl, by rw [← erase_law lkOrd _ _ _ hx.risC hp hf]; exact h.2.1, h.2.2⟩⟩
theorem drop_len {x : Nt} (nd tg : Int) : ixF (isTm nd tg) x.timers 0 = -1 ∧ tmDrop nd tg x.timers = x.timers ∨ ∃ i : Nat, i < x.timers.length ∧ ixF (isTm nd tg) x.timers 0 = 0 + (i : Int) ∧ tmDrop nd tg x.timers = x.timers.eraseIdx i ∧ (tmDrop nd tg x.timers).length + 1 = x.timers.length := by
  rcases ixF_in (isTm nd tg) x.timers 0 (by omega) with h | ⟨i, hi, h⟩
  · exact .inl ⟨h, by unfold tmDrop; rw [h]; rfl⟩
  · have e : tmDrop nd tg x.timers = x.timers.eraseIdx i := by unfold tmDrop; rw [h, if_pos (by omega)]; congr 1; omega
    exact .inr ⟨i, hi, h, e, by rw [e, List.length_eraseIdx, if_pos hi]; omega⟩
theorem set_m (B g : Nat) (x : Nt) (nd tg n : Int) (w : World) (hS : St w B g x) (hx : Ok x) (hB : B ≤ w.heap.size) :
    Calls Tryz.prog 66 #[.pointer (some ⟨g, 0, none⟩), .int .i64 nd, .int .i64 tg, .int .i64 n] w (plQ B g w (setM x nd tg n)) := by
  cases h1 : setB x.nodes nd tg n
  · exact (set_arg B g x nd tg n w hS h1).mono fun e w' h => plQ_err (by simp [setM, h1]) (by decide) h
  · have ht := hx.tms
    have ho := others_drop hx nd tg
    by_cases hf : (othersF nd tg x.timers).length = 64
    · rcases drop_len (x := x) nd tg with ⟨hi, hd⟩ | ⟨i, hi, h, hd, hl⟩
      · refine (set_full B g x nd tg n w hS h1 hi (by rw [← ho, hd] at hf; exact hf)).mono fun e w' h => plQ_err (by unfold setM; rw [if_neg (by rw [h1]; decide), if_pos hf]) (by decide) h
      · exfalso
        rw [ho] at hl
        omega
    · have hl := others_len nd tg x.timers
      refine (set_ok B g x nd tg n w hS h1 ht (by rw [ho]; omega) hB hx.t0 hx.t1).mono fun e w' h => ?_
      obtain ⟨p, hp, he, hs, hb⟩ := h
      rw [ho] at hp hs
      have hr : setM x nd tg n = ⟨{ x with timers := insS tmCmp ⟨x.now + n, nd, tg⟩ (othersF nd tg x.timers) }, 0, zLt, [], 0⟩ := by unfold setM; rw [if_neg (by rw [h1]; decide), if_neg hf]
      have hris : risesF tmCmp (othersF nd tg x.timers) = true := rises_filter tmOrd (fun t => !isTm nd tg t) hx.risT
      have hnf : foundF tmCmp (othersF nd tg x.timers) p ⟨x.now + n, nd, tg⟩ = false := by
        cases hff : foundF tmCmp (othersF nd tg x.timers) p ⟨x.now + n, nd, tg⟩
        · rfl
        · have hm := (found_law tmOrd _ _ _ hris hp).1 hff
          have := (List.mem_filter.1 hm).2
          simp [isTm] at this
      rw [hr]
      exact ⟨he, .inr ⟨rfl, by rw [← ins_law tmOrd _ _ _ hris hp hnf]; exact hs, hb⟩⟩
theorem stop_m (B g : Nat) (x : Nt) (nd tg : Int) (w : World) (hS : St w B g x) (hx : Ok x) (hB : B ≤ w.heap.size) :
    Calls Tryz.prog 87 #[.pointer (some ⟨g, 0, none⟩), .int .i64 nd, .int .i64 tg] w (plQ B g w (stopM x nd tg)) := by
  cases h1 : stopB x.nodes nd tg
  · exact (stop_arg B g x nd tg w hS h1).mono fun e w' h => plQ_err (by simp [stopM, h1]) (by decide) h
  · have ht := hx.tms
    have ho := others_drop hx nd tg
    rcases drop_len (x := x) nd tg with ⟨hi, hd⟩ | ⟨i, hi, h, hd, hl⟩
    · refine (stop_none B g x nd tg w hS h1 (by omega) hi).mono fun e w' h => plQ_err (by unfold stopM; rw [if_neg (by rw [h1]; decide), if_pos (by rw [← ho, hd])]) (by decide) h
    · refine (stop_ok B g i x nd tg w hS h1 (by omega) (by rw [h]; omega) hi hB).mono fun e w' h => ?_
      have hr : stopM x nd tg = ⟨{ x with timers := othersF nd tg x.timers }, 0, zLt, [], 0⟩ := by unfold stopM; rw [if_neg (by rw [h1]; decide), if_neg (by rw [← ho]; omega)]
      rw [hr]
      exact ⟨h.1, .inr ⟨rfl, by rw [← ho, hd]; exact h.2.1, h.2.2⟩⟩
theorem tick_m (B g : Nat) (x : Nt) (w : World) (hS : St w B g x) (hx : Ok x) (hB : B ≤ w.heap.size) :
    Calls Tryz.prog 59 #[.pointer (some ⟨g, 0, none⟩)] w (tkQ B g w (tickM x)) := by
  by_cases h1 : x.now = 1099511627776
  · refine (tick_lim B g x w hS h1).mono fun e w' h => ?_
    have hr : tickM x = errR 3 := by unfold tickM; rw [if_pos h1]
    rw [hr]
    exact ⟨_, h.1, Own.nil _ _ _, .inl ⟨by decide, h.2⟩⟩
  · have ht := hx.tms
    have ht1 := hx.t1
    refine (tick_ok B g x w hS hx.t0 (by omega) (by omega) hB).mono fun e w' h => ?_
    obtain ⟨k, v, hk, he, ho, hs, hb⟩ := h
    obtain ⟨e1, e2⟩ := tick_law (x.now + 1) x.timers k hx.risT (fun y hy => by have := later hx hy; omega) hk.1 hk.2.1 hk.2.2
    have hr : tickM x = ⟨{ x with now := x.now + 1, timers := x.timers.filter (fun t => decide (t.t ≠ x.now + 1)) }, 0, zLt, x.timers.filter (fun t => decide (t.t = x.now + 1)), 0⟩ := by unfold tickM; rw [if_neg h1]
    rw [hr, ← e1, ← e2]
    exact ⟨v, he, ho, .inr ⟨rfl, hs, hb⟩⟩
end Go.Proofs.YthlbmcfliejdiaaGreat
end

section
set_option linter.unusedVariables false
set_option linter.unusedSimpArgs false
namespace Go.Proofs.YthlbmcfliejdiaaGreat
open Go.RowKit

section
variable {w : World} {g : Nat} {t : TypeId} {c0 c1 c2 c3 c4 c5 c6 c7 c8 c9 c10 c11 c12 c13 : Value}
theorem blc3 (h : w.heap[g]? = some (.cells #[c0, c1, c2] t (0, 0))) : (w.cell? ⟨g, 0, none⟩ = some c0 ∧ w.cell? ⟨g, 1, none⟩ = some c1 ∧ w.cell? ⟨g, 2, none⟩ = some c2) ∧ (w.frozen? ⟨g, 0, none⟩ = false ∧ w.frozen? ⟨g, 1, none⟩ = false ∧ w.frozen? ⟨g, 2, none⟩ = false) :=
  ⟨⟨(bl_cell h 0).trans rfl, (bl_cell h 1).trans rfl, (bl_cell h 2).trans rfl⟩, bl_frozen h 0, bl_frozen h 1, bl_frozen h 2⟩
theorem blc5 (h : w.heap[g]? = some (.cells #[c0, c1, c2, c3, c4] t (0, 0))) : (w.cell? ⟨g, 0, none⟩ = some c0 ∧ w.cell? ⟨g, 1, none⟩ = some c1 ∧ w.cell? ⟨g, 2, none⟩ = some c2 ∧ w.cell? ⟨g, 3, none⟩ = some c3 ∧ w.cell? ⟨g, 4, none⟩ = some c4) ∧
    (w.frozen? ⟨g, 0, none⟩ = false ∧ w.frozen? ⟨g, 1, none⟩ = false ∧ w.frozen? ⟨g, 2, none⟩ = false ∧ w.frozen? ⟨g, 3, none⟩ = false ∧ w.frozen? ⟨g, 4, none⟩ = false) :=
  ⟨⟨(bl_cell h 0).trans rfl, (bl_cell h 1).trans rfl, (bl_cell h 2).trans rfl, (bl_cell h 3).trans rfl, (bl_cell h 4).trans rfl⟩, bl_frozen h 0, bl_frozen h 1, bl_frozen h 2, bl_frozen h 3, bl_frozen h 4⟩
theorem blc6 (h : w.heap[g]? = some (.cells #[c0, c1, c2, c3, c4, c5] t (0, 0))) : (w.cell? ⟨g, 0, none⟩ = some c0 ∧ w.cell? ⟨g, 1, none⟩ = some c1 ∧ w.cell? ⟨g, 2, none⟩ = some c2 ∧ w.cell? ⟨g, 3, none⟩ = some c3 ∧ w.cell? ⟨g, 4, none⟩ = some c4 ∧ w.cell? ⟨g, 5, none⟩ = some c5) ∧
    (w.frozen? ⟨g, 0, none⟩ = false ∧ w.frozen? ⟨g, 1, none⟩ = false ∧ w.frozen? ⟨g, 2, none⟩ = false ∧ w.frozen? ⟨g, 3, none⟩ = false ∧ w.frozen? ⟨g, 4, none⟩ = false ∧ w.frozen? ⟨g, 5, none⟩ = false) :=
  ⟨⟨(bl_cell h 0).trans rfl, (bl_cell h 1).trans rfl, (bl_cell h 2).trans rfl, (bl_cell h 3).trans rfl, (bl_cell h 4).trans rfl, (bl_cell h 5).trans rfl⟩, bl_frozen h 0, bl_frozen h 1, bl_frozen h 2, bl_frozen h 3, bl_frozen h 4, bl_frozen h 5⟩
theorem blc14 (h : w.heap[g]? = some (.cells #[c0, c1, c2, c3, c4, c5, c6, c7, c8, c9, c10, c11, c12, c13] t (0, 0))) :
    (w.cell? ⟨g, 0, none⟩ = some c0 ∧ w.cell? ⟨g, 1, none⟩ = some c1 ∧ w.cell? ⟨g, 2, none⟩ = some c2 ∧ w.cell? ⟨g, 3, none⟩ = some c3 ∧ w.cell? ⟨g, 4, none⟩ = some c4 ∧ w.cell? ⟨g, 5, none⟩ = some c5 ∧ w.cell? ⟨g, 6, none⟩ = some c6 ∧ w.cell? ⟨g, 7, none⟩ = some c7 ∧ w.cell? ⟨g, 8, none⟩ = some c8 ∧ w.cell? ⟨g, 9, none⟩ = some c9 ∧ w.cell? ⟨g, 10, none⟩ = some c10 ∧ w.cell? ⟨g, 11, none⟩ = some c11 ∧ w.cell? ⟨g, 12, none⟩ = some c12 ∧ w.cell? ⟨g, 13, none⟩ = some c13) ∧
    (∀ j, w.frozen? ⟨g, j, none⟩ = false) :=
  ⟨⟨(bl_cell h 0).trans rfl, (bl_cell h 1).trans rfl, (bl_cell h 2).trans rfl, (bl_cell h 3).trans rfl, (bl_cell h 4).trans rfl, (bl_cell h 5).trans rfl, (bl_cell h 6).trans rfl, (bl_cell h 7).trans rfl, (bl_cell h 8).trans rfl, (bl_cell h 9).trans rfl, (bl_cell h 10).trans rfl, (bl_cell h 11).trans rfl, (bl_cell h 12).trans rfl, (bl_cell h 13).trans rfl⟩, fun j => bl_frozen h j⟩
end
theorem NetO.drew {w : World} {B : Nat} {v : Value} {x : Nt} (h : NetO w B v x) : NetO w.drew B v x := h
theorem zNetV_own (w : World) (B : Nat) : NetO w B zNetV zNt := ⟨none, 0, none, 0, none, 0, rfl, Own.nil _ _ _, Own.nil _ _ _, Own.nil _ _ _⟩
theorem mthW.below {B g : Nat} {w w1 w2 : World} {r : Rs} (h : mthW B g w r w1) (hb : Below w1.heap.size w1 w2) (hB : B ≤ w.heap.size) (hg : g < w.heap.size) : mthW B g w r w2 := by
  rcases h with ⟨h1, h2⟩ | ⟨h1, h2, h3, h4⟩
  · exact .inl ⟨h1, below_trans h2 hb⟩
  · exact .inr ⟨h1, h2.below hb, h3.trans (hb.mono (Nat.le_trans hB h3.size)), h4.below h3.size hg hb⟩
theorem mthW.toB {B g : Nat} {w w1 : World} {r : Rs} (h : mthW B g w r w1) (hB : B ≤ w.heap.size) : Below B w w1 := by
  rcases h with ⟨h1, h2⟩ | ⟨h1, h2, h3, h4⟩
  · exact h2.mono hB
  · exact h3
theorem mthW.size {B g : Nat} {w w1 : World} {r : Rs} (h : mthW B g w r w1) : w.heap.size ≤ w1.heap.size := by
  rcases h with ⟨h1, h2⟩ | ⟨h1, h2, h3, h4⟩
  · exact h2.size
  · exact h3.size
theorem mthW.frm {B g : Nat} {w w1 : World} {r : Rs} (h : mthW B g w r w1) (hg : g < w.heap.size) : Frm w w1 g := by
  rcases h with ⟨h1, h2⟩ | ⟨h1, h2, h3, h4⟩
  · exact Frm.of_below hg h2
  · exact h4
/-- A block made behind the network is free. -/
theorem Free.new {w : World} {B g : Nat} {x : Nt} (h : St w B g x) (o : Obj) : Free (w.alloc o) g w.heap.size := by
  have hlt := h.lt
  obtain ⟨vW, vC, vT, hg, hB, oW, oC, oT⟩ := h
  refine ⟨by simp, by omega, fun j v hv => ?_⟩
  rw [bl_cell (bl_alloc hg o) j] at hv
  match j, hv with
  | 0, hv => cases hv; simp [Value.ownBlock]
  | 1, hv => cases hv; simp [Value.ownBlock]
  | 2, hv => cases hv; simp [Value.ownBlock]
  | 3, hv => cases hv; exact fun h => by have := (oW.lt _ h).2; omega
  | 4, hv => cases hv; exact fun h => by have := (oC.lt _ h).2; omega
  | 5, hv => cases hv; exact fun h => by have := (oT.lt _ h).2; omega
  | (j + 6), hv => simp at hv
theorem Free.below {w w1 : World} {g b : Nat} (h : Free w g b) (hg : g < w.heap.size) (hb : Below w.heap.size w w1) : Free w1 g b := (Frm.of_below hg hb b h).2
/-- The network behind a store into a free block. -/
theorem St.free {w : World} {B g b : Nat} {x : Nt} (h : St w B g x) (hf : Free w g b) (j : Nat) (u : Value) : St (w.setCell ⟨b, j, none⟩ u) B g x := by
  obtain ⟨vW, vC, vT, hg, hB, oW, oC, oT⟩ := h
  exact ⟨vW, vC, vT, bl_far hg (Ne.symm hf.2.1) _, hB, oW.setCell (hf.2.2 3 _ (by rw [bl_cell hg 3]; rfl)) _, oC.setCell (hf.2.2 4 _ (by rw [bl_cell hg 4]; rfl)) _, oT.setCell (hf.2.2 5 _ (by rw [bl_cell hg 5]; rfl)) _⟩
theorem Free.set {w : World} {g b b' : Nat} (h : Free w g b) (hb : b' ≠ g) (j : Nat) (u : Value) : Free (w.setCell ⟨b', j, none⟩ u) g b :=
  ⟨by simpa [World.setCell] using h.1, h.2.1, fun i v hv => h.2.2 i v (by rwa [World.cell?_of_block (Below.heap_setCell _ _ _ _ (Ne.symm hb))] at hv)⟩
/-- What a method leaves, behind a store into a block that was made just ahead of it. -/
theorem mthW.store {B g b : Nat} {w w1 : World} {r : Rs} (h : mthW B g w r w1) (hB : B ≤ b) (hb : w.heap.size ≤ b) (hg : g < w.heap.size) (hf : Free w1 g b) (j : Nat) (u : Value) : mthW B g w r (w1.setCell ⟨b, j, none⟩ u) := by
  rcases h with ⟨h1, h2⟩ | ⟨h1, h2, h3, h4⟩
  · exact .inl ⟨h1, h2.setCell (p := ⟨b, j, none⟩) hb u⟩
  · exact .inr ⟨h1, h2.free hf j u, h3.setCell (p := ⟨b, j, none⟩) hB u, h4.setNew h3.size hg (p := ⟨b, j, none⟩) hb u⟩
/-- A method called behind a block was made: seen from ahead of it. -/
theorem mthW.back {B g : Nat} {w w0 w1 : World} {r : Rs} (h : mthW B g w0 r w1) (hb : Below w.heap.size w w0) (hB : B ≤ w.heap.size) (hg : g < w.heap.size) : mthW B g w r w1 := by
  rcases h with ⟨h1, h2⟩ | ⟨h1, h2, h3, h4⟩
  · exact .inl ⟨h1, below_trans hb h2⟩
  · exact .inr ⟨h1, h2, (hb.mono hB).trans h3, (Frm.of_below hg hb).trans h4⟩

/-! An operation with an error returns nothing besides. -/
theorem send_bad {x : Nt} {fr to : Int} {data : ByteArray} (h : (sendM x fr to data).e ≠ 0) : sendM x fr to data = errR (sendM x fr to data).e := by
  unfold sendM at h ⊢
  repeat' split
  all_goals first | rfl | (simp_all)
theorem deliver_bad {x : Nt} {i : Int} (h : (deliverM x i).e ≠ 0) : deliverM x i = errR (deliverM x i).e := by
  unfold deliverM at h ⊢
  repeat' split
  all_goals first | rfl | (simp_all)
theorem lose_bad {x : Nt} {i : Int} (h : (loseM x i).e ≠ 0) : loseM x i = errR (loseM x i).e := by
  unfold loseM at h ⊢
  repeat' split
  all_goals first | rfl | (simp_all)
theorem double_bad {x : Nt} {i : Int} (h : (doubleM x i).e ≠ 0) : doubleM x i = errR (doubleM x i).e := by
  unfold doubleM at h ⊢
  repeat' split
  all_goals first | rfl | (simp_all)
theorem delay_bad {x : Nt} {i n : Int} (h : (delayM x i n).e ≠ 0) : delayM x i n = errR (delayM x i n).e := by
  unfold delayM at h ⊢
  repeat' split
  all_goals first | rfl | (simp_all)
theorem cut_bad {x : Nt} {a b : Int} (h : (cutM x a b).e ≠ 0) : cutM x a b = errR (cutM x a b).e := by
  unfold cutM at h ⊢
  repeat' split
  all_goals first | rfl | (simp_all)
theorem heal_bad {x : Nt} {a b : Int} (h : (healM x a b).e ≠ 0) : healM x a b = errR (healM x a b).e := by
  unfold healM at h ⊢
  repeat' split
  all_goals first | rfl | (simp_all)
theorem set_bad {x : Nt} {a b n : Int} (h : (setM x a b n).e ≠ 0) : setM x a b n = errR (setM x a b n).e := by
  unfold setM at h ⊢
  repeat' split
  all_goals first | rfl | (simp_all)
theorem stop_bad {x : Nt} {a b : Int} (h : (stopM x a b).e ≠ 0) : stopM x a b = errR (stopM x a b).e := by
  unfold stopM at h ⊢
  repeat' split
  all_goals first | rfl | (simp_all)
theorem tick_bad {x : Nt} (h : (tickM x).e ≠ 0) : tickM x = errR (tickM x).e := by
  unfold tickM at h ⊢
  repeat' split
  all_goals first | rfl | (simp_all)
/-- done behind a method. -/
theorem done_m (B g : Nat) (r : Rs) (w0 w : World) (hr : r.e ≠ 0 → r.x = zNt) (h : mthW B g w0 r w) : Calls Tryz.prog 38 #[.pointer (some ⟨g, 0, none⟩), .int .i64 r.e] w fun e w' => ∃ v, e = .returned (.tuple #[v, .int .i64 r.e]) ∧ NetO w' B v r.x ∧ Below w.heap.size w w' := by
  rcases h with ⟨h1, h2⟩ | ⟨h1, h2, h3, h4⟩
  · refine (done_bad _ r.e _ h1).mono fun e w' h => ⟨_, h.1, ?_, h.2⟩
    rw [hr h1]
    exact zNetV_own _ _
  · rw [h1]
    exact done_ok B g r.x _ h2
theorem NetO.far6 {w : World} {B b : Nat} {v : Value} {x : Nt} (h : NetO w B v x) (hp : b < B) (a0 a1 a2 a3 a4 a5 : Value) :
    NetO ((((((w.setCell ⟨b, 0, none⟩ a0).setCell ⟨b, 1, none⟩ a1).setCell ⟨b, 2, none⟩ a2).setCell ⟨b, 3, none⟩ a3).setCell ⟨b, 4, none⟩ a4).setCell ⟨b, 5, none⟩ a5) B v x :=
  (((((h.far (p := ⟨b, 0, none⟩) hp _).far (p := ⟨b, 1, none⟩) hp _).far (p := ⟨b, 2, none⟩) hp _).far (p := ⟨b, 3, none⟩) hp _).far (p := ⟨b, 4, none⟩) hp _).far (p := ⟨b, 5, none⟩) hp _
theorem NetO.alloc {w : World} {B : Nat} {v : Value} {x : Nt} (h : NetO w B v x) (o : Obj) : NetO (w.alloc o) B v x := h.below (below_alloc (Below.refl _ _) _)
/-- What a public function of the package leaves: a network in rows of its own. -/
def pubW (w : World) (r : Rs) (v : Value) (w' : World) : Prop := NetO w' w.heap.size v r.x ∧ Below w.heap.size w w'
end Go.Proofs.YthlbmcfliejdiaaGreat
end

section
set_option linter.unusedVariables false
set_option linter.unusedSimpArgs false
namespace Go.Proofs.YthlbmcfliejdiaaGreat
open Go.RowKit

section
variable {α : Type} (cmp : α → α → Int) (c : α)
/-- One of the list is greater. -/
def gtAny (xs : List α) : Bool := xs.any fun d => decide (cmp c d < 0)
/-- What has been put out behind the first ones: with c, once a greater one has been met. -/
def outS (xs : List α) : List α := if gtAny cmp c xs = true then insS cmp c xs else xs
theorem gtAny_snoc (xs : List α) (d : α) : gtAny cmp c (xs ++ [d]) = (gtAny cmp c xs || decide (cmp c d < 0)) := by
  unfold gtAny; simp [List.any_append]
theorem insS_yes (d : α) : ∀ (xs : List α), gtAny cmp c xs = true → insS cmp c (xs ++ [d]) = insS cmp c xs ++ [d]
  | [], h => by simp [gtAny] at h
  | y :: r, h => by
    by_cases hy : cmp c y < 0
    · simp [insS, hy]
    · have hr : gtAny cmp c r = true := by simpa [gtAny, hy] using h
      simp [insS, hy, insS_yes d r hr]
theorem insS_none : ∀ (xs : List α), gtAny cmp c xs = false → insS cmp c xs = xs ++ [c]
  | [], h => rfl
  | y :: r, h => by
    have h' : ¬ cmp c y < 0 ∧ gtAny cmp c r = false := by
      unfold gtAny at h ⊢
      simp only [List.any_cons, Bool.or_eq_false_iff, decide_eq_false_iff_not] at h
      exact h
    simp [insS, h'.1, insS_none r h'.2]
theorem insS_first (d : α) (hd : cmp c d < 0) : ∀ (xs : List α), gtAny cmp c xs = false → insS cmp c (xs ++ [d]) = xs ++ [c, d]
  | [], h => by simp [insS, hd]
  | y :: r, h => by
    have h' : ¬ cmp c y < 0 ∧ gtAny cmp c r = false := by
      unfold gtAny at h ⊢
      simp only [List.any_cons, Bool.or_eq_false_iff, decide_eq_false_iff_not] at h
      exact h
    simp [insS, h'.1, insS_first d hd r h'.2]
theorem outS_yes {xs : List α} (d : α) (h : gtAny cmp c xs = true) : outS cmp c (xs ++ [d]) = outS cmp c xs ++ [d] := by
  unfold outS
  rw [if_pos h, if_pos (by rw [gtAny_snoc, h]; rfl), insS_yes cmp c d xs h]
theorem outS_first {xs : List α} (d : α) (h : gtAny cmp c xs = false) (hd : cmp c d < 0) : outS cmp c (xs ++ [d]) = (outS cmp c xs ++ [c]) ++ [d] := by
  have h1 : gtAny cmp c (xs ++ [d]) = true := by rw [gtAny_snoc]; simp [hd]
  have h2 : ¬ gtAny cmp c xs = true := by rw [h]; decide
  unfold outS
  rw [if_pos h1, if_neg h2, insS_first cmp c d hd xs h]
  simp
theorem outS_no {xs : List α} (d : α) (h : gtAny cmp c xs = false) (hd : ¬ cmp c d < 0) : outS cmp c (xs ++ [d]) = outS cmp c xs ++ [d] := by
  have h1 : ¬ gtAny cmp c (xs ++ [d]) = true := by rw [gtAny_snoc, h]; simp [hd]
  have h2 : ¬ gtAny cmp c xs = true := by rw [h]; decide
  unfold outS
  rw [if_neg h1, if_neg h2]
theorem outS_end_yes {xs : List α} (h : gtAny cmp c xs = true) : outS cmp c xs = insS cmp c xs := if_pos h
theorem outS_end_no {xs : List α} (h : gtAny cmp c xs = false) : outS cmp c xs ++ [c] = insS cmp c xs := by
  unfold outS
  rw [if_neg (by rw [h]; decide), insS_none cmp c xs h]
theorem outS_len (xs : List α) : (outS cmp c xs).length ≤ xs.length + 1 := by
  unfold outS
  split
  · rw [(perm_insS cmp c xs).length_eq]; simp
  · omega
end
theorem take_snoc' {α : Type} {xs : List α} {k : Nat} {d : α} (h : Hid (xs[k]? = some d)) : xs.take (k + 1) = xs.take k ++ [d] := by
  rw [List.take_add_one, h.out]; rfl
end Go.Proofs.YthlbmcfliejdiaaGreat
end

section
set_option linter.unusedVariables false
set_option linter.unusedSimpArgs false
namespace Go.Proofs.YthlbmcfliejdiaaGreat
open Go.RowKit

/-! NetTwoWays. -/
/-! NetCuts. -/
theorem cut_e {x : Nt} {a b : Int} (h2 : twoB x.nodes a b = true) : cutM x a b = if mkLk a b ∈ x.cuts then errR 5 else ⟨{ x with cuts := insS lkCmp (mkLk a b) x.cuts }, 0, zLt, [], 0⟩ := by
  unfold cutM; rw [if_neg (by simp [h2])]
theorem heal_e {x : Nt} {a b : Int} (h2 : twoB x.nodes a b = true) : healM x a b = if mkLk a b ∈ x.cuts then ⟨{ x with cuts := x.cuts.filter (fun d => decide (d ≠ mkLk a b)) }, 0, zLt, [], 0⟩ else errR 4 := by
  unfold healM; rw [if_neg (by simp [h2])]
end Go.Proofs.YthlbmcfliejdiaaGreat
end
