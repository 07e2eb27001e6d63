/- A region that draws its order: operations that yield one value in every world of a class are taken first, the effects come one by one, a tail comes in one forced order. Reg's walk inside the wide fence: a region that draws its order: operations that yield one value in every world of a class are taken first, the effects come one by one, a tail comes in one forced order. wp_mix again, where the last operation waits for the others through others, too. wp_mix again, where the last operation waits for the others through others, too. A region that draws its order, by a plan: quiet operations are taken first, effects come one by one or two in either order; what has been laid stays. -/
import Derived.Test.YtoefpcepplgkeaaGreatNa
import Derived.OrdersHeld
import Derived.OrdersIn
import Derived.TacticsIn
section
set_option linter.unusedVariables false
set_option linter.unusedSimpArgs false
namespace Go.Proofs.YtoefpcepplgkeaaGreat
open Go.RowKit

section
variable {P : Program} {ops : Array Oper} {Q : Exit → Act → World → Prop} {md : Region.Mode} {C : World → Prop} {m : Nat}

/-- Whatever order is picked; as long as operation m has not come up, C holds behind each operation. -/
def wpAnyG (P : Program) (md : Region.Mode) (ops : Array Oper) (Q : Exit → Act → World → Prop) (C : World → Prop) (m : Nat) : Nat → Array Bool → Act → World → Prop
  | 0, listed, a, w => Region.ready md ops listed = [] ∧ Q .normal a w
  | fuel + 1, listed, a, w =>
    (Region.ready md ops listed = [] → Q .normal a w) ∧
    ∀ i ∈ Region.ready md ops listed, wpOp P ops Q i (fun a' w' => ((listed.setIfInBounds i true).getD m true = false → C w') ∧ wpAnyG P md ops Q C m fuel (listed.setIfInBounds i true) a' w') a w

theorem wpAny_of_G : ∀ (fuel : Nat) (listed : Array Bool) (a : Act) (w : World), wpAnyG P md ops Q C m fuel listed a w → wpAny P md ops Q fuel listed a w
  | 0, _, _, _, h => h
  | fuel + 1, _, _, _, h => ⟨h.1, fun i hi => wpOp_mono (fun a' w' h' => wpAny_of_G fuel _ a' w' h'.2) (h.2 i hi)⟩
theorem getD_self (L : Array Bool) (i : Nat) : (L.setIfInBounds i true).getD i true = true := by
  rcases Nat.lt_or_ge i L.size with h | h
  · simp [h]
  · simp [Nat.not_lt.2 h]

theorem wpAnyG_of_any : ∀ (fuel : Nat) (listed : Array Bool) (a : Act) (w : World), (listed.getD m true = true) → wpAny P md ops Q fuel listed a w → wpAnyG P md ops Q C m fuel listed a w
  | 0, _, _, _, _, h => h
  | fuel + 1, listed, _, _, hm, h => ⟨h.1, fun i hi => wpOp_mono (fun a' w' h' => by
      have hmi : (listed.setIfInBounds i true).getD m true = true := by
        by_cases e : i = m
        · subst e; exact getD_self _ _
        · rw [getD_set_ne true e]; exact hm
      exact ⟨fun h0 => (by rw [hmi] at h0; cases h0), wpAnyG_of_any fuel _ a' w' hmi h'⟩) (h.2 i hi)⟩

theorem wpAnyG_first {i : Nat} {oi : Oper} {v : Value} (hi : ops[i]? = some oi) (hsel : ∀ (j : Nat) (o : Oper) cs b, ops[j]? = some o → o.op ≠ .select cs b)
    (hQ : ∀ c a w, Q (.panic c) (a.put oi.dst v) w → Q (.panic c) a w) (hwait : Region.waitsFor md ops m i = true) (him : i ≠ m) :
    ∀ (fuel : Nat) (listed : Array Bool) (a : Act) (w : World), listed.getD m true = false →
      (∀ j oj, ops[j]? = some oj → j ≠ i → listed.getD j true = false → (∀ e ∈ oj.after, Region.binds md e = true → e.on ≠ i) → oi.apart ops oj = true) →
      i ∈ Region.ready md ops listed → YieldsIf P ops C oi v a → C w →
      wpAnyG P md ops Q C m fuel (listed.setIfInBounds i true) (a.put oi.dst v) w → wpAnyG P md ops Q C m (fuel + 1) listed a w := by
  intro fuel
  induction fuel with
  | zero =>
    intro listed a w _ _ hr hy hS H
    refine ⟨fun h => (by rw [h] at hr; cases hr), fun j hj => ?_⟩
    by_cases hji : j = i
    · subst hji; exact hy.wpOp hi hS ⟨fun _ => hS, H⟩
    · have := ready_mono hj hji
      rw [H.1] at this
      cases this
  | succ fuel ih =>
    intro listed a w hml hfree hr hy hS H
    refine ⟨fun h => (by rw [h] at hr; cases hr), fun j hj => ?_⟩
    by_cases hji : j = i
    · subst hji; exact hy.wpOp hi hS ⟨fun _ => hS, H⟩
    · have h1 := H.2 j (ready_mono hj hji)
      obtain ⟨hjun, oj, hoj, hall⟩ := mem_ready.1 hj
      have hnot : ∀ e ∈ oj.after, Region.binds md e = true → e.on ≠ i := fun e he hb heq => by
        have h1 := hall e he hb
        have h0 := (mem_ready.1 hr).1
        rw [heq] at h1
        rcases Nat.lt_or_ge i listed.size with h' | h'
        · simp [h'] at h0 h1; rw [h0] at h1; cases h1
        · simp [Array.getElem?_eq_none h'] at h1
      have hjm : j ≠ m := by
        rintro rfl
        obtain ⟨o', ho', e, he, hb, hon⟩ := Region.waitsFor_spec hwait
        have : o' = oj := Option.some.inj (ho'.symm.trans hoj)
        subst this
        exact hnot e he hb hon
      have h2 := wpOp_putIf hoj (hfree j oj hoj hji hjun hnot) (fun cs b => hsel i oi cs b hi) (fun cs b => hsel j oj cs b hoj) hQ hy h1
      have hfree' : ∀ k ok, ops[k]? = some ok → k ≠ i → (listed.setIfInBounds j true).getD k true = false →
          (∀ e ∈ ok.after, Region.binds md e = true → e.on ≠ i) → oi.apart ops ok = true := fun k ok hk hki hun hno => by
        refine hfree k ok hk hki ?_ hno
        by_cases hjk : j = k
        · subst hjk; exact hjun
        · rw [getD_set_ne true hjk] at hun; exact hun
      have hmj : (listed.setIfInBounds j true).getD m true = false := by rw [getD_set_ne true hjm]; exact hml
      have hmij : ((listed.setIfInBounds i true).setIfInBounds j true).getD m true = false := by rw [getD_set_ne true hjm, getD_set_ne true him]; exact hml
      refine wpOp_mono (fun a' w' h3 => ⟨fun _ => h3.2.1 hmij, ih (listed.setIfInBounds j true) a' w' hmj hfree' (ready_mono hr (Ne.symm hji)) h3.1 (h3.2.1 hmij) ?_⟩) h2
      rw [Array.setIfInBounds_comm _ _ hji]
      exact h3.2.2

/-- The walk: an operation that yields one value in every world of C ('true'), or an effect ('false'); then K. -/
def wpMix (P : Program) (ops : Array Oper) (C : World → Prop) (K : Act → World → Prop) (Q : Exit → Act → World → Prop) : List (Oper × Bool) → Act → World → Prop
  | [], a, w => K a w
  | (o, true) :: r, a, w => ∃ v, YieldsIf P ops C o v a ∧ wpMix P ops C K Q r (a.put o.dst v) w
  | (o, false) :: r, a, w => wpList P ops (Exit.then (fun a' w' => C w' ∧ wpMix P ops C K Q r a' w') Q) [o] a w

theorem mix_nil {K : Act → World → Prop} {a : Act} {w : World} (h : K a w) : wpMix P ops C K Q [] a w := h
theorem mix_take {K : Act → World → Prop} {a : Act} {w : World} {o : Oper} {r : List (Oper × Bool)} (v : Value) (hw : Region.wanted o (yielded ops a.tmps) = true) (hy : ∀ W, C W → (execOp a.eval o).run P W = .ok (.value v) W) (h : wpMix P ops C K Q r (a.put o.dst v) w) :
    wpMix P ops C K Q ((o, true) :: r) a w := ⟨v, .inl ⟨hw, hy⟩, h⟩
theorem mix_skip {K : Act → World → Prop} {a : Act} {w : World} {o : Oper} {r : List (Oper × Bool)} (hw : Region.wanted o (yielded ops a.tmps) = false) (h : wpMix P ops C K Q r (a.put o.dst undef) w) :
    wpMix P ops C K Q ((o, true) :: r) a w := ⟨undef, .inr ⟨hw, rfl⟩, h⟩
theorem mix_do {K : Act → World → Prop} {a : Act} {w : World} {o : Oper} {r : List (Oper × Bool)} (h : ∀ K' : Act → World → Prop, (∀ a' w', C w' → wpMix P ops C K Q r a' w' → K' a' w') → wpList P ops (Exit.then K' Q) [o] a w) :
    wpMix P ops C K Q ((o, false) :: r) a w := h _ (fun a' w' h1 h2 => ⟨h1, h2⟩)

def Region.mixB (md : Region.Mode) (ops : Array Oper) (n : Nat) : List (Nat × Bool) → Array Bool → Bool
  | [], L => Region.seqB md ops (ops.size - n) n L
  | (i, true) :: r, L => (Region.ready md ops L).contains i && Region.free md ops L i && Region.waitsFor md ops n i && !decide (i = n) && !(L.getD n true) && Region.mixB md ops n r (L.setIfInBounds i true)
  | (i, false) :: r, L => decide (Region.ready md ops L = [i]) && !decide (i = n) && !(L.getD n true) && Region.mixB md ops n r (L.setIfInBounds i true)

def pick (l : List Oper) (s : List (Nat × Bool)) : List (Oper × Bool) := s.map fun p => (l.getD p.1 default, p.2)

theorem wpAnyG_of_mix {l : List Oper} {n : Nat} (hsel : Region.noSelect l.toArray = true) (hQ : ∀ (d : Option Tmp) (v : Value) c a w, Q (.panic c) (a.put d v) w → Q (.panic c) a w) (hn : n < l.length) :
    ∀ (s : List (Nat × Bool)) (L : Array Bool) (a : Act) (w : World), (∀ p ∈ s, p.1 < l.length) → Region.mixB md l.toArray n s L = true → C w →
      wpMix P l.toArray C (fun a' w' => wpList P l.toArray Q (l.drop n) a' w') Q (pick l s) a w → wpAnyG P md l.toArray Q C n (s.length + (l.length - n)) L a w
  | [], L, a, w, _, hB, hC, h => by
    have hdl : (l.drop n).length = l.length - n := by simp
    have hB' : Region.seqB md l.toArray (l.drop n).length n L = true := by rw [hdl]; simpa [Region.mixB] using hB
    have hw := wpAny_of_seq (md := md) (Q' := Q) (l.drop n) n L a w (fun j => by simp [List.getElem?_drop]) hB' h
    rw [hdl] at hw
    rw [List.length_nil, Nat.zero_add]
    -- the first of the tail is n: behind it nothing is asked of C
    obtain ⟨g, hg⟩ : ∃ g, l.length - n = g + 1 := ⟨l.length - n - 1, by omega⟩
    rw [hg] at hw ⊢
    refine ⟨hw.1, fun i hi => wpOp_mono (fun a' w' h' => ?_) (hw.2 i hi)⟩
    have hin : i = n := by
      rw [hdl, hg] at hB'
      simp only [Region.seqB, Bool.and_eq_true, decide_eq_true_eq] at hB'
      rw [hB'.1] at hi
      simpa using hi
    subst hin
    have hmi : (L.setIfInBounds i true).getD i true = true := getD_self _ _
    exact ⟨fun h0 => (by rw [hmi] at h0; cases h0), wpAnyG_of_any _ _ _ _ hmi h'⟩
  | (i, true) :: s, L, a, w, hs, hB, hC, h => by
    have hil : i < l.length := hs (i, true) (by simp)
    have h0 : l.toArray[i]? = some (l.getD i default) := by simp [List.getD_eq_getElem?_getD, List.getElem?_eq_getElem hil]
    simp only [Region.mixB, Bool.and_eq_true, Bool.not_eq_true', decide_eq_false_iff_not] at hB
    obtain ⟨⟨⟨⟨⟨hr, hf⟩, hwt⟩, hin⟩, hL⟩, hB'⟩ := hB
    obtain ⟨v, hy, hK⟩ := h
    have hr' : i ∈ Region.ready md l.toArray L := by simpa using hr
    rw [List.length_cons, show s.length + 1 + (l.length - n) = s.length + (l.length - n) + 1 by omega]
    exact wpAnyG_first h0 (Region.noSelect_spec hsel) (fun c a w => hQ _ _ c a w) hwt hin _ L a w hL (Region.free_spec h0 hf) hr' hy hC
      (wpAnyG_of_mix hsel hQ hn s _ _ w (fun p hp => hs p (List.mem_cons_of_mem _ hp)) hB' hC hK)
  | (i, false) :: s, L, a, w, hs, hB, hC, h => by
    have hil : i < l.length := hs (i, false) (by simp)
    have h0 : l.toArray[i]? = some (l.getD i default) := by simp [List.getD_eq_getElem?_getD, List.getElem?_eq_getElem hil]
    simp only [Region.mixB, Bool.and_eq_true, Bool.not_eq_true', decide_eq_false_iff_not, decide_eq_true_eq] at hB
    obtain ⟨⟨⟨hr, hin⟩, hL⟩, hB'⟩ := hB
    rw [List.length_cons, show s.length + 1 + (l.length - n) = s.length + (l.length - n) + 1 by omega]
    refine ⟨fun h1 => (by rw [hr] at h1; cases h1), fun j hj => ?_⟩
    rw [hr] at hj
    obtain rfl : j = i := by simpa using hj
    have hw : wpOp P l.toArray Q j (fun a' w' => C w' ∧ wpMix P l.toArray C (fun a' w' => wpList P l.toArray Q (l.drop n) a' w') Q (pick l s) a' w') a w := by
      unfold wpOp
      simp only [h0]
      have h2 : wpList P l.toArray (Exit.then (fun a' w' => C w' ∧ wpMix P l.toArray C (fun a' w' => wpList P l.toArray Q (l.drop n) a' w') Q (pick l s) a' w') Q) [l.getD j default] a w := h
      unfold wpList at h2
      split
      · rename_i hw
        simp only [hw, if_true] at h2
        rcases h2 with h2 | h2
        · left
          unfold Oper.wp at *
          generalize (execOp a.eval (l.getD j default)).run P w = r at *
          cases r with
          | ok nx w' =>
            cases nx <;> simp only [Oper.upon] at h2 ⊢
            case value u => exact h2
            case skip => exact h2
            case defer d => exact h2
            case enter f args =>
              refine Calls.mono h2 fun e w'' he => ?_
              cases e with
              | returned u => exact he
              | panicked c => exact he
              | outgrown => exact he
            case row row args => exact Rows.mono h2 fun u w'' he => he
          | halt x w' =>
            cases x <;> simp only [Oper.upon] at h2 ⊢
            case panic u => exact h2
        · right
          exact h2
      · rename_i hw
        simp only [hw] at h2
        exact h2
    exact wpOp_mono (fun a' w' h' => ⟨fun _ => h'.1, wpAnyG_of_mix hsel hQ hn s _ a' w' (fun p hp => hs p (List.mem_cons_of_mem _ hp)) hB' h'.1 h'.2⟩) hw

theorem wp_mix {id : Nat} {a : Act} {w : World} {l : List Oper} (s : List (Nat × Bool)) (n : Nat) (C : World → Prop) (hm : P.follows .mixedOrders = true) (hsel : Region.noSelect l.toArray = true)
    (hs : (s.all fun p => decide (p.1 < l.length)) = true) (hn : (decide (n < l.length) && decide (s.length + (l.length - n) = l.length)) = true) (hB : Region.mixB .any l.toArray n s (Array.replicate l.length false) = true)
    (hQ : ∀ (d : Option Tmp) (v : Value) c a w, Q (.panic c) (a.put d v) w → Q (.panic c) a w) (hC : C w.drew)
    (h : wpMix P l.toArray C (fun a' w' => wpList P l.toArray Q (l.drop n) a' w') Q (pick l s) a w.drew) : (Code.region id l.toArray true).wp P Q a w := by
  simp only [Bool.and_eq_true, decide_eq_true_eq] at hn
  have hG := wpAnyG_of_mix (md := .any) hsel hQ hn.1 s _ a w.drew (fun p hp => by simpa using List.all_eq_true.1 hs p hp) hB hC h
  rw [hn.2] at hG
  refine wp_region_any hm (wpAny_of_G (C := C) (m := n) _ _ _ _ ?_)
  simpa using hG
end
end Go.Proofs.YtoefpcepplgkeaaGreat
end

section
set_option linter.unusedVariables false
set_option linter.unusedSimpArgs false
namespace Go.Proofs.YtoefpcepplgkeaaGreat
open Go.RowKit

section
variable {P : Program} {ops : Array Oper} {Q : Exit → Act → World → Prop} {md : Region.Mode} {C : World → Prop} {m u : Nat}

theorem wide_fn (f : FuncId) : Fence.wide.fn f := trivial

theorem YieldsIf.wpOpIn' {i : Nat} {o : Oper} {v : Value} {a : Act} (hi : ops[i]? = some o) (hy : YieldsIf P ops C o v a)
    {K : Act → World → Prop} {w : World} (hS : C w) (h : K (a.put o.dst v) w) : wpOpIn Fence.wide u P ops Q i K a w := by
  unfold Go.wpOpIn
  simp only [hi]
  rcases hy with ⟨hw, hv⟩ | ⟨hw, rfl⟩
  · simp only [hw, if_true, Oper.wpIn, show Fence.wide.round = none from rfl, Oper.semAt_none, hv w hS, Oper.uponIn]; exact ⟨fun f _ => wide_fn f, h⟩
  · simp only [hw, Bool.false_eq_true, if_false]; exact ⟨fun f _ => wide_fn f, h⟩

theorem wpOpIn_putIf {j : Nat} {oi oj : Oper} {v : Value} (hj : ops[j]? = some oj) (hap : oi.apart ops oj = true)
    (hsi : ∀ cs b, oi.op ≠ .select cs b) (hsj : ∀ cs b, oj.op ≠ .select cs b)
    (hQ : ∀ c a w, Q (.panic c) (a.put oi.dst v) w → Q (.panic c) a w) {K : Act → World → Prop} {a : Act} {w : World}
    (hy : YieldsIf P ops C oi v a) (h : wpOpIn Fence.wide u P ops Q j K (a.put oi.dst v) w) :
    wpOpIn Fence.wide u P ops Q j (fun a' w' => YieldsIf P ops C oi v a' ∧ K (a'.put oi.dst v) w') a w := by
  obtain ⟨h1, h2, h3⟩ := Oper.apart_spec hap
  have keep : ∀ (a : Act), YieldsIf P ops C oi v a → ∀ z, YieldsIf P ops C oi v (a.put oj.dst z) := fun a hy z =>
    hy.of_same (execOp_put oi hsi a oj.dst z h3) (wanted_put oi a oj.dst z h3)
  have keepD : ∀ d, YieldsIf P ops C oi v { a with defers := d :: a.defers } := fun d => hy.of_same rfl rfl
  unfold wpOpIn at *
  simp only [hj] at *
  rw [wanted_put oj a oi.dst v h1] at h
  split
  · rename_i hw
    simp only [hw, if_true] at h
    unfold Oper.wpIn at *
    refine ⟨fun f _ => wide_fn f, ?_⟩
    have h := h.2
    rw [show Fence.wide.round = none from rfl, Oper.semAt_none, execOp_put oj hsj a oi.dst v h1] at h
    rw [show Fence.wide.round = none from rfl, Oper.semAt_none]
    generalize (execOp a.eval oj).run P w = r at *
    cases r with
    | ok x w' =>
      cases x <;> simp only [Oper.uponIn] at h ⊢
      case value z => exact ⟨keep a hy z, by rw [← Act.put_comm a v z h2]; exact h⟩
      case skip => exact ⟨keep a hy _, by rw [← Act.put_comm a v undef h2]; exact h⟩
      case defer d =>
        refine ⟨keep _ (keepD d) _, ?_⟩
        rw [← Act.put_comm _ v undef h2, ← Act.put_defers]
        exact h
      case enter f args =>
        refine ⟨h.1, CallsIn.mono h.2 fun e w'' he => ?_⟩
        cases e with
        | returned z => exact ⟨keep a hy z, by rw [← Act.put_comm a v z h2]; exact he⟩
        | panicked c => exact hQ _ _ _ he
        | outgrown => exact he
      case row row args => exact ⟨h.1, RowsIn.mono h.2 fun z w'' he => ⟨keep a hy z, by rw [← Act.put_comm a v z h2]; exact he⟩⟩
      case round l f tmps assign body =>
        refine ⟨h.1, RoundIn.mono h.2 fun e w'' he => ?_⟩
        cases e with
        | returned z => exact ⟨keep a hy z, by rw [← Act.put_comm a v z h2]; exact he⟩
        | panicked c => exact hQ _ _ _ he
        | outgrown => exact he
    | halt x w' =>
      cases x <;> simp only [Oper.uponIn] at h ⊢
      case panic z => exact hQ _ _ _ h
  · rename_i hw
    simp only [hw] at h
    exact ⟨fun f _ => wide_fn f, keep a hy _, by rw [← Act.put_comm a v undef h2]; exact h.2⟩

theorem getD_ft {L : Array Bool} {k : Nat} (h : L.getD k false = true) : L.getD k true = true := by
  rcases Nat.lt_or_ge k L.size with h' | h'
  · simp [h'] at h ⊢; exact h
  · simp [Array.getElem?_eq_none h'] at h
/-- What is listed waits for nothing that is not. -/
def Closed (md : Region.Mode) (ops : Array Oper) (L : Array Bool) : Prop := ∀ k ok, ops[k]? = some ok → L.getD k true = true → ∀ e ∈ ok.after, Region.binds md e = true → L.getD e.on true = true
def Region.waitsT (md : Region.Mode) (ops : Array Oper) : Nat → Nat → Nat → Bool
  | 0, _, _ => false
  | f + 1, m, i => match ops[m]? with
    | none => false
    | some o => o.after.any fun e => Region.binds md e && (decide (e.on = i) || Region.waitsT md ops f e.on i)
theorem waitsT_listed {L : Array Bool} {i : Nat} (hc : Closed md ops L) : ∀ (f m : Nat), (∀ o, ops[m]? = some o → ∀ e ∈ o.after, Region.binds md e = true → L.getD e.on true = true) → Region.waitsT md ops f m i = true → L.getD i true = true
  | 0, m, _, h => by simp [Region.waitsT] at h
  | f + 1, m, hm, h => by
    unfold Region.waitsT at h
    cases ho : ops[m]? with
    | none => simp [ho] at h
    | some o =>
      simp only [ho, Array.any_eq_true', Bool.and_eq_true, Bool.or_eq_true, decide_eq_true_eq] at h
      obtain ⟨e, he, hb, h⟩ := h
      have hL := hm o ho e he hb
      rcases h with rfl | h
      · exact hL
      · exact waitsT_listed hc f e.on (fun o' ho' e' he' hb' => hc e.on o' ho' hL e' he' hb') h
theorem Closed.set {L : Array Bool} {j : Nat} (hc : Closed md ops L) (hj : j ∈ Region.ready md ops L) : Closed md ops (L.setIfInBounds j true) := by
  intro k ok hk hkl e he hb
  obtain ⟨_, oj, hoj, hall⟩ := mem_ready.1 hj
  have hL : L.getD e.on true = true := by
    by_cases hkj : k = j
    · subst hkj
      rw [hoj] at hk
      cases hk
      exact getD_ft (hall e he hb)
    · rw [getD_set_ne true (Ne.symm hkj)] at hkl
      exact hc k ok hk hkl e he hb
  by_cases h : e.on = j
  · rw [h]; exact getD_self _ _
  · rw [getD_set_ne true (Ne.symm h)]; exact hL

def wpAnyGI (u : Nat) (P : Program) (md : Region.Mode) (ops : Array Oper) (Q : Exit → Act → World → Prop) (C : World → Prop) (m : Nat) : Nat → Array Bool → Act → World → Prop
  | 0, listed, a, w => Region.ready md ops listed = [] ∧ Q .normal a w
  | fuel + 1, listed, a, w =>
    (Region.ready md ops listed = [] → Q .normal a w) ∧
    ∀ i ∈ Region.ready md ops listed, wpOpIn Fence.wide u P ops Q i (fun a' w' => ((listed.setIfInBounds i true).getD m true = false → C w') ∧ wpAnyGI u P md ops Q C m fuel (listed.setIfInBounds i true) a' w') a w

theorem wpAnyIn_of_G : ∀ (fuel : Nat) (listed : Array Bool) (a : Act) (w : World), wpAnyGI u P md ops Q C m fuel listed a w → wpAnyIn Fence.wide u P md ops Q fuel listed a w
  | 0, _, _, _, h => h
  | fuel + 1, _, _, _, h => ⟨h.1, fun i hi => wpOpIn_mono (fun a' w' h' => wpAnyIn_of_G fuel _ a' w' h'.2) (h.2 i hi)⟩

theorem wpAnyGI_of_any : ∀ (fuel : Nat) (listed : Array Bool) (a : Act) (w : World), (listed.getD m true = true) → wpAnyIn Fence.wide u P md ops Q fuel listed a w → wpAnyGI u P md ops Q C m fuel listed a w
  | 0, _, _, _, _, h => h
  | fuel + 1, listed, _, _, hm, h => ⟨h.1, fun i hi => wpOpIn_mono (fun a' w' h' => by
      have hmi : (listed.setIfInBounds i true).getD m true = true := by
        by_cases e : i = m
        · subst e; exact getD_self _ _
        · rw [getD_set_ne true e]; exact hm
      exact ⟨fun h0 => (by rw [hmi] at h0; cases h0), wpAnyGI_of_any fuel _ a' w' hmi h'⟩) (h.2 i hi)⟩

theorem wpAnyGI_first {i : Nat} {oi : Oper} {v : Value} (hi : ops[i]? = some oi) (hsel : ∀ (j : Nat) (o : Oper) cs b, ops[j]? = some o → o.op ≠ .select cs b)
    (hQ : ∀ c a w, Q (.panic c) (a.put oi.dst v) w → Q (.panic c) a w) {fw : Nat} (hwait : Region.waitsT md ops fw m i = true) (him : i ≠ m) :
    ∀ (fuel : Nat) (listed : Array Bool) (a : Act) (w : World), Closed md ops listed → listed.getD m true = false →
      (∀ j oj, ops[j]? = some oj → j ≠ i → listed.getD j true = false → (∀ e ∈ oj.after, Region.binds md e = true → e.on ≠ i) → oi.apart ops oj = true) →
      i ∈ Region.ready md ops listed → YieldsIf P ops C oi v a → C w →
      wpAnyGI u P md ops Q C m fuel (listed.setIfInBounds i true) (a.put oi.dst v) w → wpAnyGI u P md ops Q C m (fuel + 1) listed a w := by
  intro fuel
  induction fuel with
  | zero =>
    intro listed a w _ _ _ hr hy hS H
    refine ⟨fun h => (by rw [h] at hr; cases hr), fun j hj => ?_⟩
    by_cases hji : j = i
    · subst hji; exact YieldsIf.wpOpIn' hi hy hS ⟨fun _ => hS, H⟩
    · have := ready_mono hj hji
      rw [H.1] at this
      cases this
  | succ fuel ih =>
    intro listed a w hcl hml hfree hr hy hS H
    refine ⟨fun h => (by rw [h] at hr; cases hr), fun j hj => ?_⟩
    by_cases hji : j = i
    · subst hji; exact YieldsIf.wpOpIn' hi hy hS ⟨fun _ => hS, H⟩
    · have h1 := H.2 j (ready_mono hj hji)
      obtain ⟨hjun, oj, hoj, hall⟩ := mem_ready.1 hj
      have hnot : ∀ e ∈ oj.after, Region.binds md e = true → e.on ≠ i := fun e he hb heq => by
        have h1 := hall e he hb
        have h0 := (mem_ready.1 hr).1
        rw [heq] at h1
        rcases Nat.lt_or_ge i listed.size with h' | h'
        · simp [h'] at h0 h1; rw [h0] at h1; cases h1
        · simp [Array.getElem?_eq_none h'] at h1
      have hjm : j ≠ m := by
        rintro rfl
        have h2 := waitsT_listed hcl fw j (fun o ho e he hb => by
          have : o = oj := Option.some.inj (ho.symm.trans hoj)
          subst this
          exact getD_ft (hall e he hb)) hwait
        have h0 := (mem_ready.1 hr).1
        rcases Nat.lt_or_ge i listed.size with h' | h'
        · simp [h'] at h0 h2; rw [h0] at h2; cases h2
        · simp [Array.getElem?_eq_none h'] at h0
      have h2 := wpOpIn_putIf hoj (hfree j oj hoj hji hjun hnot) (fun cs b => hsel i oi cs b hi) (fun cs b => hsel j oj cs b hoj) hQ hy h1
      have hfree' : ∀ k ok, ops[k]? = some ok → k ≠ i → (listed.setIfInBounds j true).getD k true = false →
          (∀ e ∈ ok.after, Region.binds md e = true → e.on ≠ i) → oi.apart ops ok = true := fun k ok hk hki hun hno => by
        refine hfree k ok hk hki ?_ hno
        by_cases hjk : j = k
        · subst hjk; exact hjun
        · rw [getD_set_ne true hjk] at hun; exact hun
      have hmj : (listed.setIfInBounds j true).getD m true = false := by rw [getD_set_ne true hjm]; exact hml
      have hmij : ((listed.setIfInBounds i true).setIfInBounds j true).getD m true = false := by rw [getD_set_ne true hjm, getD_set_ne true him]; exact hml
      refine wpOpIn_mono (fun a' w' h3 => ⟨fun _ => h3.2.1 hmij, ih (listed.setIfInBounds j true) a' w' (hcl.set hj) hmj hfree' (ready_mono hr (Ne.symm hji)) h3.1 (h3.2.1 hmij) ?_⟩) h2
      rw [Array.setIfInBounds_comm _ _ hji]
      exact h3.2.2

theorem wpAnyIn_of_seq {Q' : Exit → Act → World → Prop} : ∀ (l : List Oper) (k : Nat) (listed : Array Bool) (a : Act) (w : World), (∀ j, l[j]? = ops[k + j]?) →
    Region.seqB md ops l.length k listed = true → wpListIn Fence.wide u P ops Q' l a w → wpAnyIn Fence.wide u P md ops Q' l.length listed a w
  | [], _, _, _, _, _, hB, h => ⟨by simpa [Region.seqB] using hB, h⟩
  | o :: l, k, listed, a, w, hl, hB, h => by
    have h0 : ops[k]? = some o := by simpa using (hl 0).symm
    simp only [List.length_cons, Region.seqB, Bool.and_eq_true, decide_eq_true_eq] at hB
    refine ⟨fun h1 => (by rw [hB.1] at h1; cases h1), fun i hi => ?_⟩
    rw [hB.1] at hi
    have hik : i = k := by simpa using hi
    subst hik
    have hw : wpOpIn Fence.wide u P ops Q' i (wpListIn Fence.wide u P ops Q' l) a w := by unfold wpOpIn; simp only [h0]; exact h
    exact wpOpIn_mono (fun a' w' h' => wpAnyIn_of_seq l (i + 1) _ a' w' (fun j => by have := hl (j + 1); simpa [Nat.add_assoc, Nat.add_comm 1 j] using this) hB.2 h') hw

def wpMixIn (u : Nat) (P : Program) (ops : Array Oper) (C : World → Prop) (K : Act → World → Prop) (Q : Exit → Act → World → Prop) : List (Oper × Bool) → Act → World → Prop
  | [], a, w => K a w
  | (o, true) :: r, a, w => ∃ v, YieldsIf P ops C o v a ∧ wpMixIn u P ops C K Q r (a.put o.dst v) w
  | (o, false) :: r, a, w => wpListIn Fence.wide u P ops (Exit.then (fun a' w' => C w' ∧ wpMixIn u P ops C K Q r a' w') Q) [o] a w

theorem mixIn_nil {K : Act → World → Prop} {a : Act} {w : World} (h : K a w) : wpMixIn u P ops C K Q [] a w := h
theorem mixIn_take {K : Act → World → Prop} {a : Act} {w : World} {o : Oper} {r : List (Oper × Bool)} (v : Value) (hw : Region.wanted o (yielded ops a.tmps) = true) (hy : ∀ W, C W → (execOp a.eval o).run P W = .ok (.value v) W) (h : wpMixIn u P ops C K Q r (a.put o.dst v) w) :
    wpMixIn u P ops C K Q ((o, true) :: r) a w := ⟨v, .inl ⟨hw, hy⟩, h⟩
theorem mixIn_skip {K : Act → World → Prop} {a : Act} {w : World} {o : Oper} {r : List (Oper × Bool)} (hw : Region.wanted o (yielded ops a.tmps) = false) (h : wpMixIn u P ops C K Q r (a.put o.dst undef) w) :
    wpMixIn u P ops C K Q ((o, true) :: r) a w := ⟨undef, .inr ⟨hw, rfl⟩, h⟩
theorem mixIn_do {K : Act → World → Prop} {a : Act} {w : World} {o : Oper} {r : List (Oper × Bool)} (h : ∀ K' : Act → World → Prop, (∀ a' w', C w' → wpMixIn u P ops C K Q r a' w' → K' a' w') → wpListIn Fence.wide u P ops (Exit.then K' Q) [o] a w) :
    wpMixIn u P ops C K Q ((o, false) :: r) a w := h _ (fun a' w' h1 h2 => ⟨h1, h2⟩)

def Region.mixTB (md : Region.Mode) (ops : Array Oper) (n : Nat) : List (Nat × Bool) → Array Bool → Bool
  | [], L => Region.seqB md ops (ops.size - n) n L
  | (i, true) :: r, L => (Region.ready md ops L).contains i && Region.free md ops L i && Region.waitsT md ops 40 n i && !decide (i = n) && !(L.getD n true) && Region.mixTB md ops n r (L.setIfInBounds i true)
  | (i, false) :: r, L => decide (Region.ready md ops L = [i]) && !decide (i = n) && !(L.getD n true) && Region.mixTB md ops n r (L.setIfInBounds i true)

theorem wpAnyGI_of_mix {l : List Oper} {n : Nat} (hsel : Region.noSelect l.toArray = true) (hQ : ∀ (d : Option Tmp) (v : Value) c a w, Q (.panic c) (a.put d v) w → Q (.panic c) a w) (hn : n < l.length) :
    ∀ (s : List (Nat × Bool)) (L : Array Bool) (a : Act) (w : World), (∀ p ∈ s, p.1 < l.length) → Region.mixTB md l.toArray n s L = true → Closed md l.toArray L → C w →
      wpMixIn u P l.toArray C (fun a' w' => wpListIn Fence.wide u P l.toArray Q (l.drop n) a' w') Q (pick l s) a w → wpAnyGI u P md l.toArray Q C n (s.length + (l.length - n)) L a w
  | [], L, a, w, _, hB, _, hC, h => by
    have hdl : (l.drop n).length = l.length - n := by simp
    have hB' : Region.seqB md l.toArray (l.drop n).length n L = true := by rw [hdl]; simpa [Region.mixTB] using hB
    have hw := wpAnyIn_of_seq (md := md) (Q' := Q) (l.drop n) n L a w (fun j => by simp [List.getElem?_drop]) hB' h
    rw [hdl] at hw
    rw [List.length_nil, Nat.zero_add]
    obtain ⟨g, hg⟩ : ∃ g, l.length - n = g + 1 := ⟨l.length - n - 1, by omega⟩
    rw [hg] at hw ⊢
    refine ⟨hw.1, fun i hi => wpOpIn_mono (fun a' w' h' => ?_) (hw.2 i hi)⟩
    have hin : i = n := by
      rw [hdl, hg] at hB'
      simp only [Region.seqB, Bool.and_eq_true, decide_eq_true_eq] at hB'
      rw [hB'.1] at hi
      simpa using hi
    subst hin
    have hmi : (L.setIfInBounds i true).getD i true = true := getD_self _ _
    exact ⟨fun h0 => (by rw [hmi] at h0; cases h0), wpAnyGI_of_any _ _ _ _ hmi h'⟩
  | (i, true) :: s, L, a, w, hs, hB, hcl, hC, h => by
    have hil : i < l.length := hs (i, true) (by simp)
    have h0 : l.toArray[i]? = some (l.getD i default) := by simp [List.getD_eq_getElem?_getD, List.getElem?_eq_getElem hil]
    simp only [Region.mixTB, Bool.and_eq_true, Bool.not_eq_true', decide_eq_false_iff_not] at hB
    obtain ⟨⟨⟨⟨⟨hr, hf⟩, hwt⟩, hin⟩, hL⟩, hB'⟩ := hB
    obtain ⟨v, hy, hK⟩ := h
    have hr' : i ∈ Region.ready md l.toArray L := by simpa using hr
    rw [List.length_cons, show s.length + 1 + (l.length - n) = s.length + (l.length - n) + 1 by omega]
    exact wpAnyGI_first h0 (Region.noSelect_spec hsel) (fun c a w => hQ _ _ c a w) hwt hin _ L a w hcl hL (Region.free_spec h0 hf) hr' hy hC
      (wpAnyGI_of_mix hsel hQ hn s _ _ w (fun p hp => hs p (List.mem_cons_of_mem _ hp)) hB' (hcl.set hr') hC hK)
  | (i, false) :: s, L, a, w, hs, hB, hcl, hC, h => by
    have hil : i < l.length := hs (i, false) (by simp)
    have h0 : l.toArray[i]? = some (l.getD i default) := by simp [List.getD_eq_getElem?_getD, List.getElem?_eq_getElem hil]
    simp only [Region.mixTB, Bool.and_eq_true, Bool.not_eq_true', decide_eq_false_iff_not, decide_eq_true_eq] at hB
    obtain ⟨⟨⟨hr, hin⟩, hL⟩, hB'⟩ := hB
    rw [List.length_cons, show s.length + 1 + (l.length - n) = s.length + (l.length - n) + 1 by omega]
    refine ⟨fun h1 => (by rw [hr] at h1; cases h1), fun j hj => ?_⟩
    rw [hr] at hj
    obtain rfl : j = i := by simpa using hj
    have hjr : j ∈ Region.ready md l.toArray L := by rw [hr]; simp
    have hw : wpOpIn Fence.wide u P l.toArray Q j (fun a' w' => C w' ∧ wpMixIn u P l.toArray C (fun a' w' => wpListIn Fence.wide u P l.toArray Q (l.drop n) a' w') Q (pick l s) a' w') a w := by
      unfold wpOpIn
      simp only [h0]
      have h2 : wpListIn Fence.wide u P l.toArray (Exit.then (fun a' w' => C w' ∧ wpMixIn u P l.toArray C (fun a' w' => wpListIn Fence.wide u P l.toArray Q (l.drop n) a' w') Q (pick l s) a' w') Q) [l.getD j default] a w := h
      unfold wpListIn at h2
      split
      · rename_i hw
        simp only [hw, if_true] at h2
        refine ⟨fun f _ => wide_fn f, ?_⟩
        have h2 := h2.2
        generalize ((l.getD j default).semAt Fence.wide.round a.eval).run P w = r at *
        cases r with
        | ok nx w' =>
          cases nx <;> simp only [Oper.uponIn] at h2 ⊢
          case value z => exact h2
          case skip => exact h2
          case defer d => exact h2
          case enter f args =>
            refine ⟨h2.1, CallsIn.mono h2.2 fun e w'' he => ?_⟩
            cases e with
            | returned z => exact he
            | panicked c => exact he
            | outgrown => exact he
          case row row args => exact ⟨h2.1, RowsIn.mono h2.2 fun z w'' he => he⟩
          case round lp f tmps assign body =>
            refine ⟨h2.1, RoundIn.mono h2.2 fun e w'' he => ?_⟩
            cases e with
            | returned z => exact he
            | panicked c => exact he
            | outgrown => exact he
        | halt x w' =>
          cases x <;> simp only [Oper.uponIn] at h2 ⊢
          case panic z => exact h2
      · rename_i hw
        simp only [hw] at h2
        exact h2
    exact wpOpIn_mono (fun a' w' h' => ⟨fun _ => h'.1, wpAnyGI_of_mix hsel hQ hn s _ a' w' (fun p hp => hs p (List.mem_cons_of_mem _ hp)) hB' (hcl.set hjr) h'.1 h'.2⟩) hw

theorem wpIn_mix {id : Nat} {a : Act} {w : World} {l : List Oper} (s : List (Nat × Bool)) (n : Nat) (C : World → Prop) (hm : P.follows .mixedOrders = true) (hsel : Region.noSelect l.toArray = true)
    (hs : (s.all fun p => decide (p.1 < l.length)) = true) (hn : (decide (n < l.length) && decide (s.length + (l.length - n) = l.length)) = true) (hB : Region.mixTB .any l.toArray n s (Array.replicate l.length false) = true)
    (hQ : ∀ (d : Option Tmp) (v : Value) c a w, Q (.panic c) (a.put d v) w → Q (.panic c) a w) (hC : C w.drew)
    (h : wpMixIn u P l.toArray C (fun a' w' => wpListIn Fence.wide u P l.toArray Q (l.drop n) a' w') Q (pick l s) a w.drew) : (Code.region id l.toArray true).wpIn Fence.wide u P Q a w := by
  simp only [Bool.and_eq_true, decide_eq_true_eq] at hn
  have hG := wpAnyGI_of_mix (md := .any) hsel hQ hn.1 s _ a w.drew (fun p hp => by simpa using List.all_eq_true.1 hs p hp) hB (fun k ok hk hkl => by
    have hk2 := (Array.getElem?_eq_some_iff.1 hk).1
    simp only [List.size_toArray] at hk2
    simp [hk2] at hkl) hC h
  rw [hn.2] at hG
  refine wpIn_region_any hm (wpAnyIn_of_G (C := C) (m := n) _ _ _ _ ?_)
  simpa using hG
end
end Go.Proofs.YtoefpcepplgkeaaGreat
end

section
set_option linter.unusedVariables false
set_option linter.unusedSimpArgs false
namespace Go.Proofs.YtoefpcepplgkeaaGreat
open Go.RowKit

section
variable {P : Program} {ops : Array Oper} {Q : Exit → Act → World → Prop} {md : Region.Mode} {C : World → Prop} {m : Nat}
def Region.waitsU (md : Region.Mode) (ops : Array Oper) : Nat → Nat → Nat → Bool
  | 0, _, _ => false
  | f + 1, m, i => match ops[m]? with
    | none => false
    | some o => (o.after.any fun e => Region.binds md e && decide (e.on = i)) || (o.after.any fun e => Region.binds md e && Region.waitsU md ops f e.on i)
theorem waitsU_T : ∀ (f m i : Nat), Region.waitsU md ops f m i = true → Region.waitsT md ops f m i = true
  | 0, m, i, h => by simp [Region.waitsU] at h
  | f + 1, m, i, h => by
    unfold Region.waitsU at h
    unfold Region.waitsT
    cases ho : ops[m]? with
    | none => simp [ho] at h
    | some o =>
      simp only [ho, Bool.or_eq_true, Array.any_eq_true', Bool.and_eq_true, decide_eq_true_eq] at h ⊢
      rcases h with ⟨e, he, hb, h⟩ | ⟨e, he, hb, h⟩
      · exact ⟨e, he, hb, .inl h⟩
      · exact ⟨e, he, hb, .inr (waitsU_T f _ _ h)⟩
theorem wpAnyG_firstT {i : Nat} {oi : Oper} {v : Value} (hi : ops[i]? = some oi) (hsel : ∀ (j : Nat) (o : Oper) cs b, ops[j]? = some o → o.op ≠ .select cs b)
    (hQ : ∀ c a w, Q (.panic c) (a.put oi.dst v) w → Q (.panic c) a w) {fw : Nat} (hwait : Region.waitsT md ops fw m i = true) (him : i ≠ m) :
    ∀ (fuel : Nat) (listed : Array Bool) (a : Act) (w : World), Closed md ops listed → listed.getD m true = false →
      (∀ j oj, ops[j]? = some oj → j ≠ i → listed.getD j true = false → (∀ e ∈ oj.after, Region.binds md e = true → e.on ≠ i) → oi.apart ops oj = true) →
      i ∈ Region.ready md ops listed → YieldsIf P ops C oi v a → C w →
      wpAnyG P md ops Q C m fuel (listed.setIfInBounds i true) (a.put oi.dst v) w → wpAnyG P md ops Q C m (fuel + 1) listed a w := by
  intro fuel
  induction fuel with
  | zero =>
    intro listed a w _ _ _ hr hy hS H
    refine ⟨fun h => (by rw [h] at hr; cases hr), fun j hj => ?_⟩
    by_cases hji : j = i
    · subst hji; exact hy.wpOp hi hS ⟨fun _ => hS, H⟩
    · have := ready_mono hj hji
      rw [H.1] at this
      cases this
  | succ fuel ih =>
    intro listed a w hcl hml hfree hr hy hS H
    refine ⟨fun h => (by rw [h] at hr; cases hr), fun j hj => ?_⟩
    by_cases hji : j = i
    · subst hji; exact hy.wpOp hi hS ⟨fun _ => hS, H⟩
    · have h1 := H.2 j (ready_mono hj hji)
      obtain ⟨hjun, oj, hoj, hall⟩ := mem_ready.1 hj
      have hnot : ∀ e ∈ oj.after, Region.binds md e = true → e.on ≠ i := fun e he hb heq => by
        have h1 := hall e he hb
        have h0 := (mem_ready.1 hr).1
        rw [heq] at h1
        rcases Nat.lt_or_ge i listed.size with h' | h'
        · simp [h'] at h0 h1; rw [h0] at h1; cases h1
        · simp [Array.getElem?_eq_none h'] at h1
      have hjm : j ≠ m := by
        rintro rfl
        have h2 := waitsT_listed hcl fw j (fun o ho e he hb => by
          have : o = oj := Option.some.inj (ho.symm.trans hoj)
          subst this
          exact getD_ft (hall e he hb)) hwait
        have h0 := (mem_ready.1 hr).1
        rcases Nat.lt_or_ge i listed.size with h' | h'
        · simp [h'] at h0 h2; rw [h0] at h2; cases h2
        · simp [Array.getElem?_eq_none h'] at h0
      have h2 := wpOp_putIf hoj (hfree j oj hoj hji hjun hnot) (fun cs b => hsel i oi cs b hi) (fun cs b => hsel j oj cs b hoj) hQ hy h1
      have hfree' : ∀ k ok, ops[k]? = some ok → k ≠ i → (listed.setIfInBounds j true).getD k true = false →
          (∀ e ∈ ok.after, Region.binds md e = true → e.on ≠ i) → oi.apart ops ok = true := fun k ok hk hki hun hno => by
        refine hfree k ok hk hki ?_ hno
        by_cases hjk : j = k
        · subst hjk; exact hjun
        · rw [getD_set_ne true hjk] at hun; exact hun
      have hmj : (listed.setIfInBounds j true).getD m true = false := by rw [getD_set_ne true hjm]; exact hml
      have hmij : ((listed.setIfInBounds i true).setIfInBounds j true).getD m true = false := by rw [getD_set_ne true hjm, getD_set_ne true him]; exact hml
      refine wpOp_mono (fun a' w' h3 => ⟨fun _ => h3.2.1 hmij, ih (listed.setIfInBounds j true) a' w' (hcl.set hj) hmj hfree' (ready_mono hr (Ne.symm hji)) h3.1 (h3.2.1 hmij) ?_⟩) h2
      rw [Array.setIfInBounds_comm _ _ hji]
      exact h3.2.2

def Region.mixUB (md : Region.Mode) (ops : Array Oper) (n : Nat) : List (Nat × Bool) → Array Bool → Bool
  | [], L => Region.seqB md ops (ops.size - n) n L
  | (i, true) :: r, L => (Region.ready md ops L).contains i && Region.free md ops L i && Region.waitsU md ops 40 n i && !decide (i = n) && !(L.getD n true) && Region.mixUB md ops n r (L.setIfInBounds i true)
  | (i, false) :: r, L => decide (Region.ready md ops L = [i]) && !decide (i = n) && !(L.getD n true) && Region.mixUB md ops n r (L.setIfInBounds i true)

theorem wpAnyG_of_mixT {l : List Oper} {n : Nat} (hsel : Region.noSelect l.toArray = true) (hQ : ∀ (d : Option Tmp) (v : Value) c a w, Q (.panic c) (a.put d v) w → Q (.panic c) a w) (hn : n < l.length) :
    ∀ (s : List (Nat × Bool)) (L : Array Bool) (a : Act) (w : World), (∀ p ∈ s, p.1 < l.length) → Region.mixUB md l.toArray n s L = true → Closed md l.toArray L → C w →
      wpMix P l.toArray C (fun a' w' => wpList P l.toArray Q (l.drop n) a' w') Q (pick l s) a w → wpAnyG P md l.toArray Q C n (s.length + (l.length - n)) L a w
  | [], L, a, w, _, hB, _, hC, h => by
    have hdl : (l.drop n).length = l.length - n := by simp
    have hB' : Region.seqB md l.toArray (l.drop n).length n L = true := by rw [hdl]; simpa [Region.mixUB] using hB
    have hw := wpAny_of_seq (md := md) (Q' := Q) (l.drop n) n L a w (fun j => by simp [List.getElem?_drop]) hB' h
    rw [hdl] at hw
    rw [List.length_nil, Nat.zero_add]
    -- the first of the tail is n: behind it nothing is asked of C
    obtain ⟨g, hg⟩ : ∃ g, l.length - n = g + 1 := ⟨l.length - n - 1, by omega⟩
    rw [hg] at hw ⊢
    refine ⟨hw.1, fun i hi => wpOp_mono (fun a' w' h' => ?_) (hw.2 i hi)⟩
    have hin : i = n := by
      rw [hdl, hg] at hB'
      simp only [Region.seqB, Bool.and_eq_true, decide_eq_true_eq] at hB'
      rw [hB'.1] at hi
      simpa using hi
    subst hin
    have hmi : (L.setIfInBounds i true).getD i true = true := getD_self _ _
    exact ⟨fun h0 => (by rw [hmi] at h0; cases h0), wpAnyG_of_any _ _ _ _ hmi h'⟩
  | (i, true) :: s, L, a, w, hs, hB, hcl, hC, h => by
    have hil : i < l.length := hs (i, true) (by simp)
    have h0 : l.toArray[i]? = some (l.getD i default) := by simp [List.getD_eq_getElem?_getD, List.getElem?_eq_getElem hil]
    simp only [Region.mixUB, Bool.and_eq_true, Bool.not_eq_true', decide_eq_false_iff_not] at hB
    obtain ⟨⟨⟨⟨⟨hr, hf⟩, hwt⟩, hin⟩, hL⟩, hB'⟩ := hB
    obtain ⟨v, hy, hK⟩ := h
    have hr' : i ∈ Region.ready md l.toArray L := by simpa using hr
    rw [List.length_cons, show s.length + 1 + (l.length - n) = s.length + (l.length - n) + 1 by omega]
    exact wpAnyG_firstT h0 (Region.noSelect_spec hsel) (fun c a w => hQ _ _ c a w) (waitsU_T _ _ _ hwt) hin _ L a w hcl hL (Region.free_spec h0 hf) hr' hy hC
      (wpAnyG_of_mixT hsel hQ hn s _ _ w (fun p hp => hs p (List.mem_cons_of_mem _ hp)) hB' (hcl.set hr') hC hK)
  | (i, false) :: s, L, a, w, hs, hB, hcl, hC, h => by
    have hil : i < l.length := hs (i, false) (by simp)
    have h0 : l.toArray[i]? = some (l.getD i default) := by simp [List.getD_eq_getElem?_getD, List.getElem?_eq_getElem hil]
    simp only [Region.mixUB, Bool.and_eq_true, Bool.not_eq_true', decide_eq_false_iff_not, decide_eq_true_eq] at hB
    obtain ⟨⟨⟨hr, hin⟩, hL⟩, hB'⟩ := hB
    rw [List.length_cons, show s.length + 1 + (l.length - n) = s.length + (l.length - n) + 1 by omega]
    refine ⟨fun h1 => (by rw [hr] at h1; cases h1), fun j hj => ?_⟩
    rw [hr] at hj
    obtain rfl : j = i := by simpa using hj
    have hjr : j ∈ Region.ready md l.toArray L := by rw [hr]; simp
    have hw : wpOp P l.toArray Q j (fun a' w' => C w' ∧ wpMix P l.toArray C (fun a' w' => wpList P l.toArray Q (l.drop n) a' w') Q (pick l s) a' w') a w := by
      unfold wpOp
      simp only [h0]
      have h2 : wpList P l.toArray (Exit.then (fun a' w' => C w' ∧ wpMix P l.toArray C (fun a' w' => wpList P l.toArray Q (l.drop n) a' w') Q (pick l s) a' w') Q) [l.getD j default] a w := h
      unfold wpList at h2
      split
      · rename_i hw
        simp only [hw, if_true] at h2
        rcases h2 with h2 | h2
        · left
          unfold Oper.wp at *
          generalize (execOp a.eval (l.getD j default)).run P w = r at *
          cases r with
          | ok nx w' =>
            cases nx <;> simp only [Oper.upon] at h2 ⊢
            case value u => exact h2
            case skip => exact h2
            case defer d => exact h2
            case enter f args =>
              refine Calls.mono h2 fun e w'' he => ?_
              cases e with
              | returned u => exact he
              | panicked c => exact he
              | outgrown => exact he
            case row row args => exact Rows.mono h2 fun u w'' he => he
          | halt x w' =>
            cases x <;> simp only [Oper.upon] at h2 ⊢
            case panic u => exact h2
        · right
          exact h2
      · rename_i hw
        simp only [hw] at h2
        exact h2
    exact wpOp_mono (fun a' w' h' => ⟨fun _ => h'.1, wpAnyG_of_mixT hsel hQ hn s _ a' w' (fun p hp => hs p (List.mem_cons_of_mem _ hp)) hB' (hcl.set hjr) h'.1 h'.2⟩) hw

theorem wp_mixT {id : Nat} {a : Act} {w : World} {l : List Oper} (s : List (Nat × Bool)) (n : Nat) (C : World → Prop) (hm : P.follows .mixedOrders = true) (hsel : Region.noSelect l.toArray = true)
    (hs : (s.all fun p => decide (p.1 < l.length)) = true) (hn : (decide (n < l.length) && decide (s.length + (l.length - n) = l.length)) = true) (hB : Region.mixUB .any l.toArray n s (Array.replicate l.length false) = true)
    (hQ : ∀ (d : Option Tmp) (v : Value) c a w, Q (.panic c) (a.put d v) w → Q (.panic c) a w) (hC : C w.drew)
    (h : wpMix P l.toArray C (fun a' w' => wpList P l.toArray Q (l.drop n) a' w') Q (pick l s) a w.drew) : (Code.region id l.toArray true).wp P Q a w := by
  simp only [Bool.and_eq_true, decide_eq_true_eq] at hn
  have hG := wpAnyG_of_mixT (md := .any) hsel hQ hn.1 s _ a w.drew (fun p hp => by simpa using List.all_eq_true.1 hs p hp) hB (fun k ok hk hkl => by
    have hk2 := (Array.getElem?_eq_some_iff.1 hk).1
    simp only [List.size_toArray] at hk2
    simp [hk2] at hkl) hC h
  rw [hn.2] at hG
  refine wp_region_any hm (wpAny_of_G (C := C) (m := n) _ _ _ _ ?_)
  simpa using hG
end
end Go.Proofs.YtoefpcepplgkeaaGreat
end

section
set_option linter.unusedVariables false
set_option linter.unusedSimpArgs false
namespace Go.Proofs.YtoefpcepplgkeaaGreat
open Go.RowKit

section
variable {P : Program} {ops : Array Oper} {Q : Exit → Act → World → Prop} {md : Region.Mode} {C : World → Prop} {m : Nat}
/-- The way from operation i up to operation m is told: nx i waits for i. -/
def Region.waitsV (md : Region.Mode) (ops : Array Oper) (nx : List Nat) : Nat → Nat → Nat → Bool
  | 0, _, _ => false
  | f + 1, m, i => Region.waitsFor md ops m i || (Region.waitsFor md ops (nx.getD i 0) i && Region.waitsV md ops nx f m (nx.getD i 0))
theorem waitsT_one {f m i : Nat} (h : Region.waitsFor md ops m i = true) : Region.waitsT md ops (f + 1) m i = true := by
  obtain ⟨o, ho, e, he, hb, hi⟩ := Region.waitsFor_spec h
  unfold Region.waitsT
  simp only [ho, Array.any_eq_true', Bool.and_eq_true, Bool.or_eq_true, decide_eq_true_eq]
  exact ⟨e, he, hb, .inl hi⟩
theorem waitsT_step : ∀ {f m k i : Nat}, Region.waitsT md ops f m k = true → Region.waitsFor md ops k i = true → Region.waitsT md ops (f + 1) m i = true
  | 0, m, k, i, h, _ => by simp [Region.waitsT] at h
  | f + 1, m, k, i, h, hk => by
    unfold Region.waitsT at h
    rw [Region.waitsT]
    cases ho : ops[m]? with
    | none => simp [ho] at h
    | some o =>
      simp only [ho, Array.any_eq_true', Bool.and_eq_true, Bool.or_eq_true, decide_eq_true_eq] at h ⊢
      obtain ⟨e, he, hb, h | h⟩ := h
      · subst h
        exact ⟨e, he, hb, .inr (waitsT_one hk)⟩
      · exact ⟨e, he, hb, .inr (waitsT_step h hk)⟩
theorem waitsV_T (nx : List Nat) : ∀ (f m i : Nat), Region.waitsV md ops nx f m i = true → Region.waitsT md ops f m i = true
  | 0, m, i, h => by simp [Region.waitsV] at h
  | f + 1, m, i, h => by
    unfold Region.waitsV at h
    simp only [Bool.or_eq_true, Bool.and_eq_true] at h
    rcases h with h | ⟨h1, h2⟩
    · exact waitsT_one h
    · exact waitsT_step (waitsV_T nx f m _ h2) h1
def Region.mixVB (nx : List Nat) (md : Region.Mode) (ops : Array Oper) (n : Nat) : List (Nat × Bool) → Array Bool → Bool
  | [], L => Region.seqB md ops (ops.size - n) n L
  | (i, true) :: r, L => (Region.ready md ops L).contains i && Region.free md ops L i && Region.waitsV md ops nx 60 n i && !decide (i = n) && !(L.getD n true) && Region.mixVB nx md ops n r (L.setIfInBounds i true)
  | (i, false) :: r, L => decide (Region.ready md ops L = [i]) && !decide (i = n) && !(L.getD n true) && Region.mixVB nx md ops n r (L.setIfInBounds i true)

theorem wpAnyG_of_mixV {nx : List Nat} {l : List Oper} {n : Nat} (hsel : Region.noSelect l.toArray = true) (hQ : ∀ (d : Option Tmp) (v : Value) c a w, Q (.panic c) (a.put d v) w → Q (.panic c) a w) (hn : n < l.length) :
    ∀ (s : List (Nat × Bool)) (L : Array Bool) (a : Act) (w : World), (∀ p ∈ s, p.1 < l.length) → Region.mixVB nx md l.toArray n s L = true → Closed md l.toArray L → C w →
      wpMix P l.toArray C (fun a' w' => wpList P l.toArray Q (l.drop n) a' w') Q (pick l s) a w → wpAnyG P md l.toArray Q C n (s.length + (l.length - n)) L a w
  | [], L, a, w, _, hB, _, hC, h => by
    have hdl : (l.drop n).length = l.length - n := by simp
    have hB' : Region.seqB md l.toArray (l.drop n).length n L = true := by rw [hdl]; simpa [Region.mixVB] using hB
    have hw := wpAny_of_seq (md := md) (Q' := Q) (l.drop n) n L a w (fun j => by simp [List.getElem?_drop]) hB' h
    rw [hdl] at hw
    rw [List.length_nil, Nat.zero_add]
    -- the first of the tail is n: behind it nothing is asked of C
    obtain ⟨g, hg⟩ : ∃ g, l.length - n = g + 1 := ⟨l.length - n - 1, by omega⟩
    rw [hg] at hw ⊢
    refine ⟨hw.1, fun i hi => wpOp_mono (fun a' w' h' => ?_) (hw.2 i hi)⟩
    have hin : i = n := by
      rw [hdl, hg] at hB'
      simp only [Region.seqB, Bool.and_eq_true, decide_eq_true_eq] at hB'
      rw [hB'.1] at hi
      simpa using hi
    subst hin
    have hmi : (L.setIfInBounds i true).getD i true = true := getD_self _ _
    exact ⟨fun h0 => (by rw [hmi] at h0; cases h0), wpAnyG_of_any _ _ _ _ hmi h'⟩
  | (i, true) :: s, L, a, w, hs, hB, hcl, hC, h => by
    have hil : i < l.length := hs (i, true) (by simp)
    have h0 : l.toArray[i]? = some (l.getD i default) := by simp [List.getD_eq_getElem?_getD, List.getElem?_eq_getElem hil]
    simp only [Region.mixVB, Bool.and_eq_true, Bool.not_eq_true', decide_eq_false_iff_not] at hB
    obtain ⟨⟨⟨⟨⟨hr, hf⟩, hwt⟩, hin⟩, hL⟩, hB'⟩ := hB
    obtain ⟨v, hy, hK⟩ := h
    have hr' : i ∈ Region.ready md l.toArray L := by simpa using hr
    rw [List.length_cons, show s.length + 1 + (l.length - n) = s.length + (l.length - n) + 1 by omega]
    exact wpAnyG_firstT h0 (Region.noSelect_spec hsel) (fun c a w => hQ _ _ c a w) (waitsV_T nx _ _ _ hwt) hin _ L a w hcl hL (Region.free_spec h0 hf) hr' hy hC
      (wpAnyG_of_mixV hsel hQ hn s _ _ w (fun p hp => hs p (List.mem_cons_of_mem _ hp)) hB' (hcl.set hr') hC hK)
  | (i, false) :: s, L, a, w, hs, hB, hcl, hC, h => by
    have hil : i < l.length := hs (i, false) (by simp)
    have h0 : l.toArray[i]? = some (l.getD i default) := by simp [List.getD_eq_getElem?_getD, List.getElem?_eq_getElem hil]
    simp only [Region.mixVB, Bool.and_eq_true, Bool.not_eq_true', decide_eq_false_iff_not, decide_eq_true_eq] at hB
    obtain ⟨⟨⟨hr, hin⟩, hL⟩, hB'⟩ := hB
    rw [List.length_cons, show s.length + 1 + (l.length - n) = s.length + (l.length - n) + 1 by omega]
    refine ⟨fun h1 => (by rw [hr] at h1; cases h1), fun j hj => ?_⟩
    rw [hr] at hj
    obtain rfl : j = i := by simpa using hj
    have hjr : j ∈ Region.ready md l.toArray L := by rw [hr]; simp
    have hw : wpOp P l.toArray Q j (fun a' w' => C w' ∧ wpMix P l.toArray C (fun a' w' => wpList P l.toArray Q (l.drop n) a' w') Q (pick l s) a' w') a w := by
      unfold wpOp
      simp only [h0]
      have h2 : wpList P l.toArray (Exit.then (fun a' w' => C w' ∧ wpMix P l.toArray C (fun a' w' => wpList P l.toArray Q (l.drop n) a' w') Q (pick l s) a' w') Q) [l.getD j default] a w := h
      unfold wpList at h2
      split
      · rename_i hw
        simp only [hw, if_true] at h2
        rcases h2 with h2 | h2
        · left
          unfold Oper.wp at *
          generalize (execOp a.eval (l.getD j default)).run P w = r at *
          cases r with
          | ok nx w' =>
            cases nx <;> simp only [Oper.upon] at h2 ⊢
            case value u => exact h2
            case skip => exact h2
            case defer d => exact h2
            case enter f args =>
              refine Calls.mono h2 fun e w'' he => ?_
              cases e with
              | returned u => exact he
              | panicked c => exact he
              | outgrown => exact he
            case row row args => exact Rows.mono h2 fun u w'' he => he
          | halt x w' =>
            cases x <;> simp only [Oper.upon] at h2 ⊢
            case panic u => exact h2
        · right
          exact h2
      · rename_i hw
        simp only [hw] at h2
        exact h2
    exact wpOp_mono (fun a' w' h' => ⟨fun _ => h'.1, wpAnyG_of_mixV hsel hQ hn s _ a' w' (fun p hp => hs p (List.mem_cons_of_mem _ hp)) hB' (hcl.set hjr) h'.1 h'.2⟩) hw

theorem wp_mixV (nx : List Nat) {id : Nat} {a : Act} {w : World} {l : List Oper} (s : List (Nat × Bool)) (n : Nat) (C : World → Prop) (hm : P.follows .mixedOrders = true) (hsel : Region.noSelect l.toArray = true)
    (hs : (s.all fun p => decide (p.1 < l.length)) = true) (hn : (decide (n < l.length) && decide (s.length + (l.length - n) = l.length)) = true) (hB : Region.mixVB nx .any l.toArray n s (Array.replicate l.length false) = true)
    (hQ : ∀ (d : Option Tmp) (v : Value) c a w, Q (.panic c) (a.put d v) w → Q (.panic c) a w) (hC : C w.drew)
    (h : wpMix P l.toArray C (fun a' w' => wpList P l.toArray Q (l.drop n) a' w') Q (pick l s) a w.drew) : (Code.region id l.toArray true).wp P Q a w := by
  simp only [Bool.and_eq_true, decide_eq_true_eq] at hn
  have hG := wpAnyG_of_mixV (md := .any) hsel hQ hn.1 s _ a w.drew (fun p hp => by simpa using List.all_eq_true.1 hs p hp) hB (fun k ok hk hkl => by
    have hk2 := (Array.getElem?_eq_some_iff.1 hk).1
    simp only [List.size_toArray] at hk2
    simp [hk2] at hkl) hC h
  rw [hn.2] at hG
  refine wp_region_any hm (wpAny_of_G (C := C) (m := n) _ _ _ _ ?_)
  simpa using hG

/-- .. where what is walked is behind names: the operations, what is to be shown behind them, what is to be shown at a panic. -/
theorem wp_mixW (nx : List Nat) {id : Nat} {a : Act} {w : World} {l : List Oper} (s : List (Nat × Bool)) (n : Nat) (C : World → Prop) (hm : P.follows .mixedOrders = true) (hsel : Region.noSelect l.toArray = true)
    (hs : (s.all fun p => decide (p.1 < l.length)) = true) (hn : (decide (n < l.length) && decide (s.length + (l.length - n) = l.length)) = true) (hB : Region.mixVB nx .any l.toArray n s (Array.replicate l.length false) = true)
    (hQ : ∀ (d : Option Tmp) (v : Value) c a w, Q (.panic c) (a.put d v) w → Q (.panic c) a w) (hC : C w.drew)
    (h : ∀ (ops : Array Oper) (K : Act → World → Prop) (Q' : Exit → Act → World → Prop), Hid (∀ (i : Nat) (o : Oper), l[i]? = some o → ops[i]? = some o) → Hid (∀ a' w', wpList P l.toArray Q (l.drop n) a' w' → K a' w') →
      wpMix P ops C K Q' (pick l s) a w.drew) : (Code.region id l.toArray true).wp P Q a w :=
  wp_mixV nx s n C hm hsel hs hn hB hQ hC (h l.toArray _ Q (fun i o h => by simpa using h) (fun _ _ h => h))
end
end Go.Proofs.YtoefpcepplgkeaaGreat
end

section
set_option linter.unusedVariables false
set_option linter.unusedSimpArgs false
namespace Go.Proofs.YtoefpcepplgkeaaGreat
open Go.RowKit

inductive Plan where
  | tail
  | take (i : Nat) (p : Plan)
  | eff (i : Nat) (p : Plan)
  | two (i j : Nat) (p q : Plan)
def Plan.len : Plan → Nat
  | .tail => 0
  | .take _ p => p.len + 1
  | .eff _ p => p.len + 1
  | .two _ _ p _ => p.len + 1

section
variable {P : Program} {Q : Exit → Act → World → Prop} {md : Region.Mode}
/-- Is the plan one for these operations? -/
def Plan.ok (nx : List Nat) (md : Region.Mode) (ops : Array Oper) (n : Nat) : Plan → Array Bool → Bool
  | .tail, L => Region.seqB md ops (ops.size - n) n L
  | .take i p, L => decide (i < ops.size) && (Region.ready md ops L).contains i && Region.free md ops L i && Region.waitsV md ops nx 40 n i && !decide (i = n) && !(L.getD n true) && p.ok nx md ops n (L.setIfInBounds i true)
  | .eff i p, L => decide (i < ops.size) && decide (Region.ready md ops L = [i]) && !decide (i = n) && !(L.getD n true) && p.ok nx md ops n (L.setIfInBounds i true)
  | .two i j p q, L => decide (i < ops.size) && decide (j < ops.size) && decide (Region.ready md ops L = [i, j]) && !decide (i = n) && !decide (j = n) && !(L.getD n true) && decide (p.len = q.len) && p.ok nx md ops n (L.setIfInBounds i true) && q.ok nx md ops n (L.setIfInBounds j true)

def Later (w W : World) : Prop := Below w.heap.size w W
theorem Later.refl (w : World) : Later w w := Below.refl _ _
theorem Later.trans {a b c : World} (h : Later a b) (k : Later b c) : Later a c := below_trans h k
theorem Later.drew {a b : World} (h : Later a b) : Later a b.drew := Below.drew h
theorem Later.draws {a b : World} (h : Later a b) (q : Nat) : Later a (b.drewN q) := ⟨h.os, h.tape, h.output, h.size, h.block⟩
theorem Later.alloc {a b : World} (h : Later a b) (o : Obj) : Later a (b.alloc o) := below_alloc h o

/-- What is to be shown along a plan. -/
def wpPlan (P : Program) (l : List Oper) (Q : Exit → Act → World → Prop) (n : Nat) : Plan → Act → World → Prop
  | .tail, a, w => wpList P l.toArray Q (l.drop n) a w
  | .take i p, a, w => ∃ v, YieldsIf P l.toArray (Later w) (l.getD i default) v a ∧ wpPlan P l Q n p (a.put (l.getD i default).dst v) w
  | .eff i p, a, w => wpList P l.toArray (Exit.then (fun a' w' => Later w w' ∧ wpPlan P l Q n p a' w') Q) [l.getD i default] a w
  | .two i j p q, a, w => wpList P l.toArray (Exit.then (fun a' w' => Later w w' ∧ wpPlan P l Q n p a' w') Q) [l.getD i default] a w ∧ wpList P l.toArray (Exit.then (fun a' w' => Later w w' ∧ wpPlan P l Q n q a' w') Q) [l.getD j default] a w

theorem eff_op {l : List Oper} {j : Nat} {o : Oper} {a : Act} {w : World} {K : Act → World → Prop} (h0 : l.toArray[j]? = some o) (h : wpList P l.toArray (Exit.then K Q) [o] a w) : wpOp P l.toArray Q j K a w := by
  unfold wpOp
  simp only [h0]
  have h2 := h
  unfold wpList at h2
  split
  · rename_i hw
    simp only [hw, if_true] at h2
    rcases h2 with h2 | h2
    · left
      unfold Oper.wp at *
      generalize (execOp a.eval o).run P w = r at *
      cases r with
      | ok nx w' =>
        cases nx <;> simp only [Oper.upon] at h2 ⊢
        case value u => exact h2
        case skip => exact h2
        case defer d => exact h2
        case enter f args =>
          refine Calls.mono h2 fun e w'' he => ?_
          cases e with
          | returned u => exact he
          | panicked c => exact he
          | outgrown => exact he
        case row row args => exact Rows.mono h2 fun u w'' he => he
      | halt x w' =>
        cases x <;> simp only [Oper.upon] at h2 ⊢
        case panic u => exact h2
    · right
      exact h2
  · rename_i hw
    simp only [hw] at h2
    exact h2

theorem wpAnyG_mono {ops : Array Oper} {C D : World → Prop} {m : Nat} (hCD : ∀ w, C w → D w) : ∀ (fuel : Nat) (L : Array Bool) (a : Act) (w : World), wpAnyG P md ops Q C m fuel L a w → wpAnyG P md ops Q D m fuel L a w
  | 0, _, _, _, h => h
  | fuel + 1, L, a, w, h => ⟨h.1, fun i hi => wpOp_mono (fun a' w' h' => ⟨fun h0 => hCD _ (h'.1 h0), wpAnyG_mono hCD fuel _ a' w' h'.2⟩) (h.2 i hi)⟩

theorem plan_ok {nx : List Nat} {l : List Oper} {n : Nat} (hsel : Region.noSelect l.toArray = true) (hQ : ∀ (d : Option Tmp) (v : Value) c a w, Q (.panic c) (a.put d v) w → Q (.panic c) a w) (hn : n < l.length) :
    ∀ (p : Plan) (L : Array Bool) (a : Act) (w : World), p.ok nx md l.toArray n L = true → Closed md l.toArray L → wpPlan P l Q n p a w → wpAnyG P md l.toArray Q (Later w) n (p.len + (l.length - n)) L a w
  | .tail, L, a, w, hB, _, h => by
    have hdl : (l.drop n).length = l.length - n := by simp
    have hB' : Region.seqB md l.toArray (l.drop n).length n L = true := by rw [hdl]; simpa [Plan.ok] using hB
    have hw := wpAny_of_seq (md := md) (Q' := Q) (l.drop n) n L a w (fun j => by simp [List.getElem?_drop]) hB' h
    rw [hdl] at hw
    simp only [Plan.len, Nat.zero_add]
    obtain ⟨g, hg⟩ : ∃ g, l.length - n = g + 1 := ⟨l.length - n - 1, by omega⟩
    rw [hg] at hw ⊢
    refine ⟨hw.1, fun i hi => wpOp_mono (fun a' w' h' => ?_) (hw.2 i hi)⟩
    have hin : i = n := by
      rw [hdl, hg] at hB'
      simp only [Region.seqB, Bool.and_eq_true, decide_eq_true_eq] at hB'
      rw [hB'.1] at hi
      simpa using hi
    subst hin
    have hmi : (L.setIfInBounds i true).getD i true = true := getD_self _ _
    exact ⟨fun h0 => (by rw [hmi] at h0; cases h0), wpAnyG_of_any _ _ _ _ hmi h'⟩
  | .take i p, L, a, w, hB, hcl, h => by
    simp only [Plan.ok, Bool.and_eq_true, Bool.not_eq_true', decide_eq_false_iff_not, decide_eq_true_eq, List.size_toArray] at hB
    obtain ⟨⟨⟨⟨⟨⟨hil, hr⟩, hf⟩, hwt⟩, hin⟩, hL⟩, hB'⟩ := hB
    have h0 : l.toArray[i]? = some (l.getD i default) := by simp [List.getD_eq_getElem?_getD, List.getElem?_eq_getElem hil]
    obtain ⟨v, hy, hK⟩ := h
    have hr' : i ∈ Region.ready md l.toArray L := by simpa using hr
    simp only [Plan.len]
    rw [show p.len + 1 + (l.length - n) = p.len + (l.length - n) + 1 by omega]
    exact wpAnyG_firstT h0 (Region.noSelect_spec hsel) (fun c a w => hQ _ _ c a w) (waitsV_T _ _ _ _ hwt) hin _ L a w hcl hL (Region.free_spec h0 hf) hr' hy (Later.refl w)
      (plan_ok hsel hQ hn p _ _ w hB' (hcl.set hr') hK)
  | .eff i p, L, a, w, hB, hcl, h => by
    simp only [Plan.ok, Bool.and_eq_true, Bool.not_eq_true', decide_eq_false_iff_not, decide_eq_true_eq, List.size_toArray] at hB
    obtain ⟨⟨⟨⟨hil, hr⟩, hin⟩, hL⟩, hB'⟩ := hB
    have h0 : l.toArray[i]? = some (l.getD i default) := by simp [List.getD_eq_getElem?_getD, List.getElem?_eq_getElem hil]
    simp only [Plan.len]
    rw [show p.len + 1 + (l.length - n) = p.len + (l.length - n) + 1 by omega]
    refine ⟨fun h1 => (by rw [hr] at h1; cases h1), fun j hj => ?_⟩
    rw [hr] at hj
    obtain rfl : j = i := by simpa using hj
    have hjr : j ∈ Region.ready md l.toArray L := by rw [hr]; simp
    exact wpOp_mono (fun a' w' h' => ⟨fun _ => h'.1, wpAnyG_mono (fun W hW => h'.1.trans hW) _ _ _ _ (plan_ok hsel hQ hn p _ a' w' hB' (hcl.set hjr) h'.2)⟩) (eff_op h0 h)
  | .two i j p q, L, a, w, hB, hcl, h => by
    simp only [Plan.ok, Bool.and_eq_true, Bool.not_eq_true', decide_eq_false_iff_not, decide_eq_true_eq, List.size_toArray] at hB
    obtain ⟨⟨⟨⟨⟨⟨⟨⟨hil, hjl⟩, hr⟩, hin⟩, hjn⟩, hL⟩, hpq⟩, hB1⟩, hB2⟩ := hB
    have hi0 : l.toArray[i]? = some (l.getD i default) := by simp [List.getD_eq_getElem?_getD, List.getElem?_eq_getElem hil]
    have hj0 : l.toArray[j]? = some (l.getD j default) := by simp [List.getD_eq_getElem?_getD, List.getElem?_eq_getElem hjl]
    simp only [Plan.len]
    rw [show p.len + 1 + (l.length - n) = p.len + (l.length - n) + 1 by omega]
    refine ⟨fun h1 => (by rw [hr] at h1; cases h1), fun k hk => ?_⟩
    have hkr := hk
    rw [hr] at hk
    simp only [List.mem_cons, List.not_mem_nil, or_false] at hk
    rcases hk with rfl | rfl
    · exact wpOp_mono (fun a' w' h' => ⟨fun _ => h'.1, wpAnyG_mono (fun W hW => h'.1.trans hW) _ _ _ _ (plan_ok hsel hQ hn p _ a' w' hB1 (hcl.set hkr) h'.2)⟩) (eff_op hi0 h.1)
    · rw [hpq]
      exact wpOp_mono (fun a' w' h' => ⟨fun _ => h'.1, wpAnyG_mono (fun W hW => h'.1.trans hW) _ _ _ _ (plan_ok hsel hQ hn q _ a' w' hB2 (hcl.set hkr) h'.2)⟩) (eff_op hj0 h.2)

/-- A region that draws, by a plan. -/
theorem wp_plan (nx : List Nat) (p : Plan) (n : Nat) {id : Nat} {a : Act} {w : World} {l : List Oper} (hm : P.follows .mixedOrders = true) (hsel : Region.noSelect l.toArray = true)
    (hn : (decide (n < l.length) && decide (p.len + (l.length - n) = l.length)) = true) (hB : p.ok nx .any l.toArray n (Array.replicate l.length false) = true)
    (hQ : ∀ (d : Option Tmp) (v : Value) c a w, Q (.panic c) (a.put d v) w → Q (.panic c) a w)
    (h : wpPlan P l Q n p a w.drew) : (Code.region id l.toArray true).wp P Q a w := by
  simp only [Bool.and_eq_true, decide_eq_true_eq] at hn
  have hG := plan_ok (md := .any) hsel hQ hn.1 p _ a w.drew hB (fun k ok hk hkl => by
    have hk2 := (Array.getElem?_eq_some_iff.1 hk).1
    simp only [List.size_toArray] at hk2
    simp [hk2] at hkl) h
  rw [hn.2] at hG
  refine wp_region_any hm (wpAny_of_G (C := Later w.drew) (m := n) _ _ _ _ ?_)
  simpa using hG

variable {l : List Oper} {n : Nat} {a : Act} {w : World} {p q : Plan} {i j : Nat}
theorem plan_take (v : Value) (hw : Region.wanted (l.getD i default) (yielded l.toArray a.tmps) = true) (hy : ∀ W, Later w W → (execOp a.eval (l.getD i default)).run P W = .ok (.value v) W) (h : wpPlan P l Q n p (a.put (l.getD i default).dst v) w) : wpPlan P l Q n (.take i p) a w := ⟨v, .inl ⟨hw, hy⟩, h⟩
theorem plan_skip (hw : Region.wanted (l.getD i default) (yielded l.toArray a.tmps) = false) (h : wpPlan P l Q n p (a.put (l.getD i default).dst undef) w) : wpPlan P l Q n (.take i p) a w := ⟨undef, .inr ⟨hw, rfl⟩, h⟩
theorem plan_eff (h : ∀ K : Act → World → Prop, (∀ a' w', Later w w' → wpPlan P l Q n p a' w' → K a' w') → wpList P l.toArray (Exit.then K Q) [l.getD i default] a w) : wpPlan P l Q n (.eff i p) a w := h _ fun _ _ h1 h2 => ⟨h1, h2⟩
theorem plan_two (h : ∀ K : Act → World → Prop, (∀ a' w', Later w w' → wpPlan P l Q n p a' w' → K a' w') → wpList P l.toArray (Exit.then K Q) [l.getD i default] a w) (h' : ∀ K : Act → World → Prop, (∀ a' w', Later w w' → wpPlan P l Q n q a' w' → K a' w') → wpList P l.toArray (Exit.then K Q) [l.getD j default] a w) : wpPlan P l Q n (.two i j p q) a w :=
  ⟨h _ fun _ _ h1 h2 => ⟨h1, h2⟩, h' _ fun _ _ h1 h2 => ⟨h1, h2⟩⟩
theorem plan_tail (h : wpList P l.toArray Q (l.drop n) a w) : wpPlan P l Q n .tail a w := h
end
end Go.Proofs.YtoefpcepplgkeaaGreat
end
