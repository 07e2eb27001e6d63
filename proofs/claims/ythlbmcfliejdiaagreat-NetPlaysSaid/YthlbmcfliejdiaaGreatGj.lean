/- The reference's small functions: isNode, isTime, lesser, pair, failed, New. wp_mix again, where the last operation waits for the others through others, too. The reference's cut, can and ready. The comparisons of lists of timers and letters. (Printed by wip/gen_same.py.). Plain laws: what the reference's Is looks at is what the program's Check looks at. A region taken step by step over variables that are told as a function (for functions of very many variables). wp_mix again, where the last operation waits for the others through others, too. The reference's Same, New, Check, Ready; the law's small and few. The arguments of the laws, opened: lists and networks out of what is read. The arguments of the laws, opened: acts. What the walks of the laws share. -/
import Derived.Test.YthlbmcfliejdiaaGreatGh
import Derived.Test.YthlbmcfliejdiaaGreatGi
import Derived.Test.YthlbmcfliejdiaaGreatGb
import Derived.Deep.Slices
import Derived.ChangeArms
import Derived.WideShapes
section
set_option linter.unusedVariables false
set_option linter.unusedSimpArgs false
namespace Go.Proofs.YthlbmcfliejdiaaGreat
open Go.RowKit

set_option maxHeartbeats 400000 in
theorem RisNode_any (a0 a1 a2 n : Int) (A3 A4 A5 : Option Addr) (n3 c3 n4 c4 n5 c5 : Nat) (w : World) : Calls Tryz.prog 41 #[.agg #[.int .i64 a0, .int .i64 a1, .int .i64 a2, .slice A3 n3 c3, .slice A4 n4 c4, .slice A5 n5 c5], .int .i64 n] w
    fun e w' => e = .returned (.bool (isNodeB a0 n)) ∧ Below w.heap.size w w' := by
  by_cases h : 0 ≤ n
  · by_cases h2 : n < a0
    all_goals
      go_enter Tryz.func41, Tryz.ntmps41
      go_wp2
      go_ret
      exact ⟨ret_bool (by simp [isNodeB, *]), below_alloc (Below.refl _ _) _⟩
  · go_enter Tryz.func41, Tryz.ntmps41
    go_wp2
    go_ret
    exact ⟨ret_bool (by simp [isNodeB, *]; omega), below_alloc (Below.refl _ _) _⟩
def isTimeB (n : Int) : Bool := decide (0 ≤ n) && decide (n ≤ 1099511628776)
set_option maxHeartbeats 400000 in
theorem RisTime_any (n : Int) (w : World) : Calls Tryz.prog 72 #[.int .i64 n] w fun e w' => e = .returned (.bool (isTimeB n)) ∧ w = w' := by
  by_cases h : 0 ≤ n
  · go_enter Tryz.func72, Tryz.ntmps72
    go_wp2
    go_ret
    exact ⟨ret_bool (by simp [isTimeB, *]), rfl⟩
  · go_enter Tryz.func72, Tryz.ntmps72
    go_wp2
    go_ret
    exact ⟨ret_bool (by simp [isTimeB, *]; omega), rfl⟩
def lesserB (s t : Tm) : Bool := decide (tmCmp s t < 0)
theorem lesserB_iff (s t : Tm) : lesserB s t = true ↔ s.t < t.t ∨ s.t = t.t ∧ (s.node < t.node ∨ s.node = t.node ∧ s.tag < t.tag) := by
  unfold lesserB tmCmp; rw [decide_eq_true_eq, timerCmp_lt]
set_option maxHeartbeats 400000 in
theorem Rlesser_any (s t : Tm) (w : World) : Calls Tryz.prog 73 #[.agg #[.int .i64 s.t, .int .i64 s.node, .int .i64 s.tag], .agg #[.int .i64 t.t, .int .i64 t.node, .int .i64 t.tag]] w fun e w' => e = .returned (.bool (lesserB s t)) ∧ Below w.heap.size w w' := by
  by_cases h1 : s.t = t.t
  · have q1 : (s.t != t.t) = false := by simpa using h1
    by_cases h2 : s.node = t.node
    · have q2 : (s.node != t.node) = false := by simpa using h2
      have HF : Hid (lesserB s t = decide (s.tag < t.tag)) := by show _ = _; rw [Bool.eq_iff_iff, lesserB_iff, decide_eq_true_eq]; omega
      clear h1 h2
      go_enter Tryz.func73, Tryz.ntmps73
      go_wp2
      go_ret
      exact ⟨ret_bool HF.out.symm, below_alloc (below_alloc (Below.refl _ _) _) _⟩
    · have q2 : (s.node != t.node) = true := by simpa using h2
      have HF : Hid (lesserB s t = decide (s.node < t.node)) := by show _ = _; rw [Bool.eq_iff_iff, lesserB_iff, decide_eq_true_eq]; omega
      clear h1 h2
      go_enter Tryz.func73, Tryz.ntmps73
      go_wp2
      go_ret
      exact ⟨ret_bool HF.out.symm, below_alloc (below_alloc (Below.refl _ _) _) _⟩
  · have q1 : (s.t != t.t) = true := by simpa using h1
    have HF : Hid (lesserB s t = decide (s.t < t.t)) := by show _ = _; rw [Bool.eq_iff_iff, lesserB_iff, decide_eq_true_eq]; omega
    clear h1
    go_enter Tryz.func73, Tryz.ntmps73
    go_wp2
    go_ret
    exact ⟨ret_bool HF.out.symm, below_alloc (below_alloc (Below.refl _ _) _) _⟩
set_option maxHeartbeats 400000 in
theorem Rpair_any (a b : Int) (w : World) : Calls Tryz.prog 110 #[.int .i64 a, .int .i64 b] w fun e w' => e = .returned (.agg #[.int .i64 (mkLk a b).a, .int .i64 (mkLk a b).b]) ∧ Below w.heap.size w w' := by
  rcases mkLk_or a b with ⟨e, h⟩ | ⟨e, h⟩
  · have hn : ¬ b < a := by omega
    have HE := Lib.hid e
    clear e
    go_enter Tryz.func110, Tryz.ntmps110
    go_wp2
    exact ret_c Tryz.results110 w.heap.size 96 #[.int .i64 a, .int .i64 b] _ rfl (bl_new w _) Tryz.underlying96 rfl sizeLk rfl ⟨by rw [HE.out], below_alloc (Below.refl _ _) _⟩
  · have HE := Lib.hid e
    clear e
    go_enter Tryz.func110, Tryz.ntmps110
    go_wp2
    exact ret_c Tryz.results110 w.heap.size 96 #[.int .i64 b, .int .i64 a] _ rfl (bl_new w _) Tryz.underlying96 rfl sizeLk rfl ⟨by rw [HE.out], below_alloc (Below.refl _ _) _⟩

/-! What the reference's operations return. -/
theorem sizeMade : (Tryz.prog.info? 35).map (·.size) = some 14 := by kernel_rfl
set_option maxHeartbeats 400000 in
set_option maxRecDepth 100000 in
theorem Rfailed_any (k : Int) (w : World) : Calls Tryz.prog 40 #[.int .i64 k] w fun e w' =>
    e = .returned (.agg #[.int .i64 0, .int .i64 0, .int .i64 0, .slice none 0 0, .slice none 0 0, .slice none 0 0, .int .i64 0, .int .i64 0, .int .i64 0, .int .i64 0, .int .i64 0, .string ⟨#[]⟩, .slice none 0 0, .int .i64 k]) ∧ Below w.heap.size w w' := by
  go_enter Tryz.func40, Tryz.ntmps40
  go_wp2
  exact ret_c Tryz.results40 w.heap.size 35 #[.int .i64 0, .int .i64 0, .int .i64 0, .slice none 0 0, .slice none 0 0, .slice none 0 0, .int .i64 0, .int .i64 0, .int .i64 0, .int .i64 0, .int .i64 0, .string ⟨#[]⟩, .slice none 0 0, .int .i64 k] _ rfl (bl_new w _) Tryz.underlying35 rfl sizeMade rfl ⟨rfl, below_alloc (Below.refl _ _) _⟩
end Go.Proofs.YthlbmcfliejdiaaGreat
end

section
set_option linter.unusedVariables false
set_option linter.unusedSimpArgs false
namespace Go.Proofs.YthlbmcfliejdiaaGreat
open Go.RowKit

section
variable {P : Program} {ops : Array Oper} {Q : Exit → Act → World → Prop} {md : Region.Mode} {C : World → Prop} {m : Nat}
def Region.waitsU (md : Region.Mode) (ops : Array Oper) : Nat → Nat → Nat → Bool
  | 0, _, _ => false
  | f + 1, m, i => match ops[m]? with
    | none => false
    | some o => (o.after.any fun e => Region.binds md e && decide (e.on = i)) || (o.after.any fun e => Region.binds md e && Region.waitsU md ops f e.on i)
theorem waitsU_T : ∀ (f m i : Nat), Region.waitsU md ops f m i = true → Region.waitsT md ops f m i = true
  | 0, m, i, h => by simp [Region.waitsU] at h
  | f + 1, m, i, h => by
    unfold Region.waitsU at h
    unfold Region.waitsT
    cases ho : ops[m]? with
    | none => simp [ho] at h
    | some o =>
      simp only [ho, Bool.or_eq_true, Array.any_eq_true', Bool.and_eq_true, decide_eq_true_eq] at h ⊢
      rcases h with ⟨e, he, hb, h⟩ | ⟨e, he, hb, h⟩
      · exact ⟨e, he, hb, .inl h⟩
      · exact ⟨e, he, hb, .inr (waitsU_T f _ _ h)⟩
theorem wpAnyG_firstT {i : Nat} {oi : Oper} {v : Value} (hi : ops[i]? = some oi) (hsel : ∀ (j : Nat) (o : Oper) cs b, ops[j]? = some o → o.op ≠ .select cs b)
    (hQ : ∀ c a w, Q (.panic c) (a.put oi.dst v) w → Q (.panic c) a w) {fw : Nat} (hwait : Region.waitsT md ops fw m i = true) (him : i ≠ m) :
    ∀ (fuel : Nat) (listed : Array Bool) (a : Act) (w : World), Closed md ops listed → listed.getD m true = false →
      (∀ j oj, ops[j]? = some oj → j ≠ i → listed.getD j true = false → (∀ e ∈ oj.after, Region.binds md e = true → e.on ≠ i) → oi.apart ops oj = true) →
      i ∈ Region.ready md ops listed → YieldsIf P ops C oi v a → C w →
      wpAnyG P md ops Q C m fuel (listed.setIfInBounds i true) (a.put oi.dst v) w → wpAnyG P md ops Q C m (fuel + 1) listed a w := by
  intro fuel
  induction fuel with
  | zero =>
    intro listed a w _ _ _ hr hy hS H
    refine ⟨fun h => (by rw [h] at hr; cases hr), fun j hj => ?_⟩
    by_cases hji : j = i
    · subst hji; exact hy.wpOp hi hS ⟨fun _ => hS, H⟩
    · have := ready_mono hj hji
      rw [H.1] at this
      cases this
  | succ fuel ih =>
    intro listed a w hcl hml hfree hr hy hS H
    refine ⟨fun h => (by rw [h] at hr; cases hr), fun j hj => ?_⟩
    by_cases hji : j = i
    · subst hji; exact hy.wpOp hi hS ⟨fun _ => hS, H⟩
    · have h1 := H.2 j (ready_mono hj hji)
      obtain ⟨hjun, oj, hoj, hall⟩ := mem_ready.1 hj
      have hnot : ∀ e ∈ oj.after, Region.binds md e = true → e.on ≠ i := fun e he hb heq => by
        have h1 := hall e he hb
        have h0 := (mem_ready.1 hr).1
        rw [heq] at h1
        rcases Nat.lt_or_ge i listed.size with h' | h'
        · simp [h'] at h0 h1; rw [h0] at h1; cases h1
        · simp [Array.getElem?_eq_none h'] at h1
      have hjm : j ≠ m := by
        rintro rfl
        have h2 := waitsT_listed hcl fw j (fun o ho e he hb => by
          have : o = oj := Option.some.inj (ho.symm.trans hoj)
          subst this
          exact getD_ft (hall e he hb)) hwait
        have h0 := (mem_ready.1 hr).1
        rcases Nat.lt_or_ge i listed.size with h' | h'
        · simp [h'] at h0 h2; rw [h0] at h2; cases h2
        · simp [Array.getElem?_eq_none h'] at h0
      have h2 := wpOp_putIf hoj (hfree j oj hoj hji hjun hnot) (fun cs b => hsel i oi cs b hi) (fun cs b => hsel j oj cs b hoj) hQ hy h1
      have hfree' : ∀ k ok, ops[k]? = some ok → k ≠ i → (listed.setIfInBounds j true).getD k true = false →
          (∀ e ∈ ok.after, Region.binds md e = true → e.on ≠ i) → oi.apart ops ok = true := fun k ok hk hki hun hno => by
        refine hfree k ok hk hki ?_ hno
        by_cases hjk : j = k
        · subst hjk; exact hjun
        · rw [getD_set_ne true hjk] at hun; exact hun
      have hmj : (listed.setIfInBounds j true).getD m true = false := by rw [getD_set_ne true hjm]; exact hml
      have hmij : ((listed.setIfInBounds i true).setIfInBounds j true).getD m true = false := by rw [getD_set_ne true hjm, getD_set_ne true him]; exact hml
      refine wpOp_mono (fun a' w' h3 => ⟨fun _ => h3.2.1 hmij, ih (listed.setIfInBounds j true) a' w' (hcl.set hj) hmj hfree' (ready_mono hr (Ne.symm hji)) h3.1 (h3.2.1 hmij) ?_⟩) h2
      rw [Array.setIfInBounds_comm _ _ hji]
      exact h3.2.2

def Region.mixUB (md : Region.Mode) (ops : Array Oper) (n : Nat) : List (Nat × Bool) → Array Bool → Bool
  | [], L => Region.seqB md ops (ops.size - n) n L
  | (i, true) :: r, L => (Region.ready md ops L).contains i && Region.free md ops L i && Region.waitsU md ops 40 n i && !decide (i = n) && !(L.getD n true) && Region.mixUB md ops n r (L.setIfInBounds i true)
  | (i, false) :: r, L => decide (Region.ready md ops L = [i]) && !decide (i = n) && !(L.getD n true) && Region.mixUB md ops n r (L.setIfInBounds i true)

theorem wpAnyG_of_mixT {l : List Oper} {n : Nat} (hsel : Region.noSelect l.toArray = true) (hQ : ∀ (d : Option Tmp) (v : Value) c a w, Q (.panic c) (a.put d v) w → Q (.panic c) a w) (hn : n < l.length) :
    ∀ (s : List (Nat × Bool)) (L : Array Bool) (a : Act) (w : World), (∀ p ∈ s, p.1 < l.length) → Region.mixUB md l.toArray n s L = true → Closed md l.toArray L → C w →
      wpMix P l.toArray C (fun a' w' => wpList P l.toArray Q (l.drop n) a' w') Q (pick l s) a w → wpAnyG P md l.toArray Q C n (s.length + (l.length - n)) L a w
  | [], L, a, w, _, hB, _, hC, h => by
    have hdl : (l.drop n).length = l.length - n := by simp
    have hB' : Region.seqB md l.toArray (l.drop n).length n L = true := by rw [hdl]; simpa [Region.mixUB] using hB
    have hw := wpAny_of_seq (md := md) (Q' := Q) (l.drop n) n L a w (fun j => by simp [List.getElem?_drop]) hB' h
    rw [hdl] at hw
    rw [List.length_nil, Nat.zero_add]
    -- the first of the tail is n: behind it nothing is asked of C
    obtain ⟨g, hg⟩ : ∃ g, l.length - n = g + 1 := ⟨l.length - n - 1, by omega⟩
    rw [hg] at hw ⊢
    refine ⟨hw.1, fun i hi => wpOp_mono (fun a' w' h' => ?_) (hw.2 i hi)⟩
    have hin : i = n := by
      rw [hdl, hg] at hB'
      simp only [Region.seqB, Bool.and_eq_true, decide_eq_true_eq] at hB'
      rw [hB'.1] at hi
      simpa using hi
    subst hin
    have hmi : (L.setIfInBounds i true).getD i true = true := getD_self _ _
    exact ⟨fun h0 => (by rw [hmi] at h0; cases h0), wpAnyG_of_any _ _ _ _ hmi h'⟩
  | (i, true) :: s, L, a, w, hs, hB, hcl, hC, h => by
    have hil : i < l.length := hs (i, true) (by simp)
    have h0 : l.toArray[i]? = some (l.getD i default) := by simp [List.getD_eq_getElem?_getD, List.getElem?_eq_getElem hil]
    simp only [Region.mixUB, Bool.and_eq_true, Bool.not_eq_true', decide_eq_false_iff_not] at hB
    obtain ⟨⟨⟨⟨⟨hr, hf⟩, hwt⟩, hin⟩, hL⟩, hB'⟩ := hB
    obtain ⟨v, hy, hK⟩ := h
    have hr' : i ∈ Region.ready md l.toArray L := by simpa using hr
    rw [List.length_cons, show s.length + 1 + (l.length - n) = s.length + (l.length - n) + 1 by omega]
    exact wpAnyG_firstT h0 (Region.noSelect_spec hsel) (fun c a w => hQ _ _ c a w) (waitsU_T _ _ _ hwt) hin _ L a w hcl hL (Region.free_spec h0 hf) hr' hy hC
      (wpAnyG_of_mixT hsel hQ hn s _ _ w (fun p hp => hs p (List.mem_cons_of_mem _ hp)) hB' (hcl.set hr') hC hK)
  | (i, false) :: s, L, a, w, hs, hB, hcl, hC, h => by
    have hil : i < l.length := hs (i, false) (by simp)
    have h0 : l.toArray[i]? = some (l.getD i default) := by simp [List.getD_eq_getElem?_getD, List.getElem?_eq_getElem hil]
    simp only [Region.mixUB, Bool.and_eq_true, Bool.not_eq_true', decide_eq_false_iff_not, decide_eq_true_eq] at hB
    obtain ⟨⟨⟨hr, hin⟩, hL⟩, hB'⟩ := hB
    rw [List.length_cons, show s.length + 1 + (l.length - n) = s.length + (l.length - n) + 1 by omega]
    refine ⟨fun h1 => (by rw [hr] at h1; cases h1), fun j hj => ?_⟩
    rw [hr] at hj
    obtain rfl : j = i := by simpa using hj
    have hjr : j ∈ Region.ready md l.toArray L := by rw [hr]; simp
    have hw : wpOp P l.toArray Q j (fun a' w' => C w' ∧ wpMix P l.toArray C (fun a' w' => wpList P l.toArray Q (l.drop n) a' w') Q (pick l s) a' w') a w := by
      unfold wpOp
      simp only [h0]
      have h2 : wpList P l.toArray (Exit.then (fun a' w' => C w' ∧ wpMix P l.toArray C (fun a' w' => wpList P l.toArray Q (l.drop n) a' w') Q (pick l s) a' w') Q) [l.getD j default] a w := h
      unfold wpList at h2
      split
      · rename_i hw
        simp only [hw, if_true] at h2
        rcases h2 with h2 | h2
        · left
          unfold Oper.wp at *
          generalize (execOp a.eval (l.getD j default)).run P w = r at *
          cases r with
          | ok nx w' =>
            cases nx <;> simp only [Oper.upon] at h2 ⊢
            case value u => exact h2
            case skip => exact h2
            case defer d => exact h2
            case enter f args =>
              refine Calls.mono h2 fun e w'' he => ?_
              cases e with
              | returned u => exact he
              | panicked c => exact he
              | outgrown => exact he
            case row row args => exact Rows.mono h2 fun u w'' he => he
          | halt x w' =>
            cases x <;> simp only [Oper.upon] at h2 ⊢
            case panic u => exact h2
        · right
          exact h2
      · rename_i hw
        simp only [hw] at h2
        exact h2
    exact wpOp_mono (fun a' w' h' => ⟨fun _ => h'.1, wpAnyG_of_mixT hsel hQ hn s _ a' w' (fun p hp => hs p (List.mem_cons_of_mem _ hp)) hB' (hcl.set hjr) h'.1 h'.2⟩) hw

theorem wp_mixT {id : Nat} {a : Act} {w : World} {l : List Oper} (s : List (Nat × Bool)) (n : Nat) (C : World → Prop) (hm : P.follows .mixedOrders = true) (hsel : Region.noSelect l.toArray = true)
    (hs : (s.all fun p => decide (p.1 < l.length)) = true) (hn : (decide (n < l.length) && decide (s.length + (l.length - n) = l.length)) = true) (hB : Region.mixUB .any l.toArray n s (Array.replicate l.length false) = true)
    (hQ : ∀ (d : Option Tmp) (v : Value) c a w, Q (.panic c) (a.put d v) w → Q (.panic c) a w) (hC : C w.drew)
    (h : wpMix P l.toArray C (fun a' w' => wpList P l.toArray Q (l.drop n) a' w') Q (pick l s) a w.drew) : (Code.region id l.toArray true).wp P Q a w := by
  simp only [Bool.and_eq_true, decide_eq_true_eq] at hn
  have hG := wpAnyG_of_mixT (md := .any) hsel hQ hn.1 s _ a w.drew (fun p hp => by simpa using List.all_eq_true.1 hs p hp) hB (fun k ok hk hkl => by
    have hk2 := (Array.getElem?_eq_some_iff.1 hk).1
    simp only [List.size_toArray] at hk2
    simp [hk2] at hkl) hC h
  rw [hn.2] at hG
  refine wp_region_any hm (wpAny_of_G (C := C) (m := n) _ _ _ _ ?_)
  simpa using hG
end
end Go.Proofs.YthlbmcfliejdiaaGreat
end

section
set_option linter.unusedVariables false
set_option linter.unusedSimpArgs false
namespace Go.Proofs.YthlbmcfliejdiaaGreat
open Go.RowKit
attribute [local go_sem high] eqATm eqALt eqAAc eqALk

theorem lk_eq (c d : Lk) : (c.a == d.a && (c.b == d.b)) = decide (c = d) := by
  rw [Bool.eq_iff_iff]
  cases c; cases d
  simp
def cutB (x : Nt) (a b : Int) : Bool := decide (mkLk a b ∈ x.cuts)
set_option maxHeartbeats 2000000 in
set_option maxRecDepth 100000 in
theorem Rcut_any (x : Nt) (a b : Int) (v : Value) (w : World) (hV : NetV w v x) (hl : x.cuts.length ≤ 10000000) :
    Calls Tryz.prog 75 #[v, .int .i64 a, .int .i64 b] w fun e w' => e = .returned (.bool (cutB x a b)) ∧ Below w.heap.size w w' := by
  obtain ⟨AW, cW, AC, cC, AT, cT, rfl, hW, hC, hT⟩ := hV
  obtain ⟨w0, hw0⟩ : ∃ w0, w0 = w.alloc (.cells #[.int .i64 x.nodes, .int .i64 x.now, .int .i64 x.next, .slice AW x.way.length cW, .slice AC x.cuts.length cC, .slice AT x.timers.length cT] 26) := ⟨_, rfl⟩
  have hb0 : Below w.heap.size w w0 := by rw [hw0]; exact below_alloc (Below.refl _ _) _
  have hz0 : w0.heap[w.heap.size]? = some (.cells #[.int .i64 x.nodes, .int .i64 x.now, .int .i64 x.next, .slice AW x.way.length cW, .slice AC x.cuts.length cC, .slice AT x.timers.length cT] 26 (0, 0)) := by rw [hw0]; exact bl_new _ _
  have HB0 := Lib.hid hb0
  have HZ0 := Lib.hid hz0
  have HW0 := Lib.hid hw0
  have HC := Lib.hid (hC.below hb0)
  clear hb0 hz0 hw0 hW hC hT
  go_enter Tryz.func75, Tryz.ntmps75
  go_wp2
  rw [← HW0.out]
  clear HW0
  go_loopw [7] (fun i wr => ∃ k : Nat, k ≤ x.cuts.length ∧ i = .int .i64 k ∧ Hid (cutB x a b = decide (mkLk a b ∈ x.cuts.drop k)) ∧ Hid (Below w0.heap.size w0 wr)) (fun i _ => x.cuts.length - (intOf i).toNat)
  case atStart => exact ⟨0, Nat.zero_le _, rfl, rfl, Below.refl _ _⟩
  case round =>
    obtain ⟨k, hk, rfl, ho, hB⟩ := hrel
    have hz := bl_below HZ0.out hB.out
    obtain ⟨⟨k0, k1, k2, k3, k4, k5⟩, -⟩ := blc6 hz
    have hlz := bl_lt hz
    by_cases hlt : k < x.cuts.length
    · obtain ⟨bb, off, c, rfl, hx, c0, c1⟩ := (HC.out.below hB.out).lk k hlt
      have hbt : bb < wr.heap.size := World.block_lt_of_cell? wr _ c0
      have hd : Hid (decide (mkLk a b ∈ x.cuts.drop k) = (decide (c = mkLk a b) || decide (mkLk a b ∈ x.cuts.drop (k + 1)))) := by
        show _ = _
        rw [drop_at hx, Bool.eq_iff_iff]
        simp only [List.mem_cons, decide_eq_true_eq, Bool.or_eq_true]
        constructor
        · rintro (h | h)
          · exact .inl h.symm
          · exact .inr h
        · rintro (h | h)
          · exact .inl h.symm
          · exact .inr h
      have hq := lk_eq c (mkLk a b)
      obtain ⟨l, hl⟩ : ∃ l, l = mkLk a b := ⟨_, rfl⟩
      have hp : Hid (∀ w, Calls Tryz.prog 110 #[.int .i64 a, .int .i64 b] w fun e w' => e = .returned (.agg #[.int .i64 l.a, .int .i64 l.b]) ∧ Below w.heap.size w w') := by
        rw [hl]; exact fun w => Rpair_any a b w
      rw [← hl] at hq
      have HL := Lib.hid hl
      clear hl
      by_cases hcl : c = l
      all_goals
        first | rw [decide_eq_true hcl] at hq | rw [decide_eq_false hcl] at hq
        have HCL := Lib.hid hcl
        clear hcl
        go_wp2
        refine wp_mixT [(0, true), (1, true), (2, true), (3, true), (4, true), (5, true), (6, true), (7, false)] 8
          (fun w' => Below wr.heap.size wr w')
          (by kernel_rfl) (by kernel_rfl) (by kernel_rfl) (by kernel_rfl) (by kernel_rfl) (fun d _ _ _ _ h => by cases d <;> exact h) (Below.refl _ _).drew ?_
        simp only [pick, List.map_cons, List.map_nil, List.getD_cons_zero, List.getD_cons_succ, List.drop_succ_cons, List.drop_zero]
        iterate 7
          apply mix_take
          case hw => rfl
          case hy => intro W hW; obtain ⟨hwc, -⟩ := bcell hW; go_simp; try rfl
          simp only [Act.put, List.setIfInBounds_toArray, List.set_cons_zero, List.set_cons_succ]
        refine mix_do fun K' hK' => ?_
        go_wp2_with fail
        refine calls_below (hp.out _) ?_
        intro w2 hb2
        have hb2' : Below wr.heap.size wr w2 := below_trans (Below.refl _ wr).drew hb2
        go_wp2
        refine hK' _ _ hb2' (mix_nil ?_)
        clear hK' K'
        go_wp2
      · go_ret
        exact ⟨ret_bool (by rw [ho.out, hd.out, HCL.out, HL.out]; simp), below_trans HB0.out (below_trans hB.out hb2')⟩
      · go_roundw
        case rel => exact ⟨k + 1, by omega, by go_num, by show _ = _; rw [ho.out, hd.out, ← HL.out, decide_eq_false HCL.out, Bool.false_or], below_trans hB.out hb2'⟩
        case measure => simp [intOf]; omega
    · have hkl : k = x.cuts.length := by omega
      have HKL := Lib.hid hkl
      clear hkl
      go_wp2
      go_ret
      exact ⟨ret_bool (by rw [ho.out, HKL.out, List.drop_length]; simp), below_trans HB0.out hB.out⟩
theorem canB_eq (x : Nt) (l : Lt) : canB x l = (decide (l.rd ≤ x.now) && !cutB x l.fr l.to) := by
  unfold canB cutB
  have h := mem_prL (mkLk l.fr l.to) x.cuts
  rw [show decide (((mkLk l.fr l.to).a, (mkLk l.fr l.to).b) ∈ x.cuts.map prL) = decide (mkLk l.fr l.to ∈ x.cuts) from decide_eq_decide.2 h]
set_option maxHeartbeats 1000000 in
set_option maxRecDepth 100000 in
theorem Rcan_any (x : Nt) (l : Lt) (v : Value) (w : World) (hV : NetV w v x) (hl : x.cuts.length ≤ 10000000) :
    Calls Tryz.prog 44 #[v, .agg #[.int .i64 l.id, .int .i64 l.fr, .int .i64 l.to, .int .i64 l.rd, .string l.data]] w fun e w' => e = .returned (.bool (canB x l)) ∧ Below w.heap.size w w' := by
  obtain ⟨AW, cW, AC, cC, AT, cT, rfl, hW, hC, hT⟩ := hV
  have HV : Hid (∀ W, Below w.heap.size w W → NetV W (.agg #[.int .i64 x.nodes, .int .i64 x.now, .int .i64 x.next, .slice AW x.way.length cW, .slice AC x.cuts.length cC, .slice AT x.timers.length cT]) x) := fun W hb => ⟨AW, cW, AC, cC, AT, cT, rfl, hW.below hb, hC.below hb, hT.below hb⟩
  clear hW hC hT
  by_cases h : l.rd ≤ x.now
  · have HC : Hid (canB x l = !cutB x l.fr l.to) := by show _ = _; rw [canB_eq, decide_eq_true h, Bool.true_and]
    obtain ⟨r, hr⟩ : ∃ r, r = cutB x l.fr l.to := ⟨_, rfl⟩
    have hcut := fun (v : Value) (w : World) (hV : NetV w v x) => Rcut_any x l.fr l.to v w hV hl
    rw [← hr] at HC hcut
    have HCUT := Lib.hid hcut
    clear hr hcut
    go_enter Tryz.func44, Tryz.ntmps44
    go_wp2_with (go_at_call 75; refine (HCUT.out _ _ (HV.out _ (below_alloc (below_alloc (Below.refl _ _) _) _))).mono ?_; rintro e w2 ⟨rfl, hb2⟩)
    go_ret
    exact ⟨ret_bool HC.out.symm, below_trans (below_alloc (below_alloc (Below.refl _ _) _) _) hb2⟩
  · have HC : Hid (canB x l = false) := by show _ = _; rw [canB_eq, decide_eq_false h, Bool.false_and]
    go_enter Tryz.func44, Tryz.ntmps44
    go_wp2
    go_ret
    exact ⟨ret_bool HC.out.symm, below_alloc (below_alloc (Below.refl _ _) _) _⟩
def intsI (ks : List Nat) : List Int := ks.map fun k : Nat => (k : Int)
set_option maxHeartbeats 4000000 in
set_option maxRecDepth 100000 in
theorem Rready_any (x : Nt) (v : Value) (w : World) (hV : NetV w v x) (hl : x.cuts.length ≤ 10000000) (hlw : x.way.length ≤ 10000000) :
    Calls Tryz.prog 60 #[v] w fun e w' => ∃ u, e = .returned u ∧ Own w' w.heap.size 3 u (intsI (rdyF x)) ∧ Below w.heap.size w w' := by
  obtain ⟨AW, cW, AC, cC, AT, cT, rfl, hW, hC, hT⟩ := hV
  obtain ⟨w0, hw0⟩ : ∃ w0, w0 = w.alloc (.cells #[.int .i64 x.nodes, .int .i64 x.now, .int .i64 x.next, .slice AW x.way.length cW, .slice AC x.cuts.length cC, .slice AT x.timers.length cT] 26) := ⟨_, rfl⟩
  have hb0 : Below w.heap.size w w0 := by rw [hw0]; exact below_alloc (Below.refl _ _) _
  have hz0 : w0.heap[w.heap.size]? = some (.cells #[.int .i64 x.nodes, .int .i64 x.now, .int .i64 x.next, .slice AW x.way.length cW, .slice AC x.cuts.length cC, .slice AT x.timers.length cT] 26 (0, 0)) := by rw [hw0]; exact bl_new _ _
  have HB0 := Lib.hid hb0
  have HZ0 := Lib.hid hz0
  have HW0 := Lib.hid hw0
  have HW := Lib.hid hW
  have HV : Hid (NetV w (.agg #[.int .i64 x.nodes, .int .i64 x.now, .int .i64 x.next, .slice AW x.way.length cW, .slice AC x.cuts.length cC, .slice AT x.timers.length cT]) x) := ⟨AW, cW, AC, cC, AT, cT, rfl, hW, hC, hT⟩
  clear hb0 hz0 hw0 hW hC hT
  go_enter Tryz.func60, Tryz.ntmps60
  go_wp2
  rw [← HW0.out]
  clear HW0
  go_loopw [3, 4] (fun u i wr => ∃ k : Nat, k ≤ x.way.length ∧ i = .int .i64 k ∧ Hid (Own wr w.heap.size 3 u (intsI (rdyTo x k))) ∧ Hid (wr.heap[w.heap.size]? = some (.cells #[.int .i64 x.nodes, .int .i64 x.now, .int .i64 x.next, .slice AW x.way.length cW, .slice AC x.cuts.length cC, .slice AT x.timers.length cT] 26 (0, 0))) ∧ Hid (Below w.heap.size w wr)) (fun _ i _ => x.way.length - (intOf i).toNat)
  case atStart => exact ⟨0, Nat.zero_le _, rfl, (Own.nil _ _ _ : Own w0 w.heap.size 3 (.slice none 0 0) ([] : List Int)), HZ0.out, HB0.out⟩
  case round =>
    obtain ⟨k, hk, rfl, hO, HZ, hB⟩ := hrel
    obtain ⟨⟨k0, k1, k2, k3, k4, k5⟩, -⟩ := blc6 HZ.out
    have hlz := bl_lt HZ.out
    have hVr := Lib.hid (HV.out.below hB.out)
    by_cases hlt : k < x.way.length
    · obtain ⟨bb, off, l, rfl, hx, c0, c1, c2, c3, c4⟩ := (HW.out.below hB.out).lt k hlt
      have hbt : bb < wr.heap.size := World.block_lt_of_cell? wr _ c0
      have hci : Hid (canI x k = canB x l) := by show _ = _; unfold canI; rw [hx.out]
      obtain ⟨r, hr⟩ : ∃ r, r = canB x l := ⟨_, rfl⟩
      have hcan : Hid (∀ v w, NetV w v x → Calls Tryz.prog 44 #[v, .agg #[.int .i64 l.id, .int .i64 l.fr, .int .i64 l.to, .int .i64 l.rd, .string l.data]] w fun e w' => e = .returned (.bool r) ∧ Below w.heap.size w w') := by rw [hr]; exact fun v w hV => Rcan_any x l v w hV hl
      rw [← hr] at hci
      clear hr
      cases r
      all_goals
        go_wp2
        refine wp_mixT [(0, true), (1, true), (2, true), (3, true), (4, true), (5, true), (6, false)] 7
          (fun w' => Below wr.heap.size wr w')
          (by kernel_rfl) (by kernel_rfl) (by kernel_rfl) (by kernel_rfl) (by kernel_rfl) (fun d _ _ _ _ h => by cases d <;> exact h) (Below.refl _ _).drew ?_
        simp only [pick, List.map_cons, List.map_nil, List.getD_cons_zero, List.getD_cons_succ, List.drop_succ_cons, List.drop_zero]
        iterate 6
          apply mix_take
          case hw => rfl
          case hy => intro W hW; obtain ⟨hwc, -⟩ := bcell hW; go_simp; try rfl
          simp only [Act.put, List.setIfInBounds_toArray, List.set_cons_zero, List.set_cons_succ]
        refine mix_do fun K' hK' => ?_
        go_wp2_with fail
        refine calls_below (hcan.out _ _ (hVr.out.below (Below.refl _ _).drew)) ?_
        intro w2 hb2
        have hb2' : Below wr.heap.size wr w2 := below_trans (Below.refl _ wr).drew hb2
        go_wp2
        refine hK' _ _ hb2' (mix_nil ?_)
        clear hK' K'
      · go_wp2
        go_roundw
        case rel => exact ⟨k + 1, by omega, by go_num, by show Own _ _ _ _ _; rw [rdyTo_succ, hci.out]; exact hO.out.below hb2', bl_below HZ.out hb2', hB.out.trans (hb2'.mono hB.out.size)⟩
        case measure => simp [intOf]; omega
      · have hO2 := hO.out.below hb2'
        have hZ2 := bl_below HZ.out hb2'
        have hB2 : Below w.heap.size w w2 := hB.out.trans (hb2'.mono hB.out.size)
        have HO2 := Lib.hid hO2
        have HZ2 := Lib.hid hZ2
        have HB2 := Lib.hid hB2
        have hle := hB2.size
        clear hO2 hZ2 hB2 hb2' hb2 hO HZ hB hVr
        go_wp2_with (at_builtin; refine hid_stop ?_)
        change wpList _ _ _ _ _ (w2.alloc _)
        refine wpList_app _ w.heap.size rfl (.tmp 21) (.tmp 23) 79 3 _ 8 rfl Tryz.underlying79 infoI rfl (by decide) (by decide) u3 (intsI (rdyTo x k)) [(k : Int)] (some ⟨w2.heap.size, 0, none⟩) 1 rfl rfl (HO2.out.alloc _) ?hR ?hB ?hL ?_
        case hR => exact Rd.new w2 3 (k : Int) #[.int .i64 k] rfl
        case hB => simp; omega
        case hL =>
          have : (rdyTo x k).length ≤ k := by unfold rdyTo; exact Nat.le_trans (List.length_filter_le _ _) (by simp)
          simp [intsI]; omega
        intro v1 w6 ho hg hat
        have hgq : w2.grownBy w6 (u3 : Value).ownBlock := grown_of_alloc hg
        have hF1 : Hid (Own w6 w.heap.size 3 v1 (intsI (rdyTo x (k + 1)))) := by
          show Own _ _ _ _ _
          rw [rdyTo_succ, hci.out]
          simpa [intsI] using ho
        have hF2 := Lib.hid (bl_grown HZ2.out hgq (fun h => HO2.out.ne HZ2.out (by decide) h.symm))
        have hF3 : Hid (Below w.heap.size w w6) := HB2.out.grown hgq HB2.out.size (fun k hk => (HO2.out.lt k hk).1)
        clear ho hg hgq hat HO2 HZ2 HB2
        go_wp2
        go_roundw
        case rel => exact ⟨k + 1, by omega, by go_num, hF1.out, hF2.out, hF3.out⟩
        case measure => simp [intOf]; omega
    · have hkl : k = x.way.length := by omega
      have HKL := Lib.hid hkl
      clear hkl
      go_wp2
      go_ret
      refine ⟨_, rfl, ?_, hB.out⟩
      have h := hO.out
      rw [HKL.out] at h
      exact h
end Go.Proofs.YthlbmcfliejdiaaGreat
end

section
set_option linter.unusedVariables false
set_option linter.unusedSimpArgs false
namespace Go.Proofs.YthlbmcfliejdiaaGreat
open Go.RowKit
attribute [local go_sem high] eqATm eqALt eqAAc eqALk

theorem tm_eq (c d : Tm) : (c.t == d.t && (c.node == d.node && (c.tag == d.tag))) = decide (c = d) := by
  rw [Bool.eq_iff_iff]
  cases c; cases d
  simp
theorem ba_loop (b : ByteArray) (i : Nat) (r : List UInt8) : ByteArray.toList.loop b i r = r.reverse ++ b.data.toList.drop i := by
  induction h : b.size - i generalizing i r with
  | zero =>
    unfold ByteArray.toList.loop
    have : ¬ i < b.size := by omega
    rw [if_neg this]
    have h2 : b.data.toList.length ≤ i := by simp only [Array.length_toList]; show b.size ≤ i; omega
    rw [List.drop_eq_nil_of_le h2, List.append_nil]
  | succ n ih =>
    unfold ByteArray.toList.loop
    have : i < b.size := by omega
    rw [if_pos this, ih (i+1) _ (by omega)]
    have h2 : i < b.data.toList.length := by simp only [Array.length_toList]; show i < b.size; exact this
    rw [List.drop_eq_getElem_cons h2]
    have h3 : b.get! i = b.data.toList[i] := by
      show b.data[i]! = _
      have : i < b.data.size := by simpa using h2
      rw [getElem!_pos b.data i this]; simp
    rw [List.reverse_cons, List.append_assoc, h3]; rfl
theorem ba_list (b : ByteArray) : b.toList = b.data.toList := by
  have := ba_loop b 0 []
  simpa [ByteArray.toList] using this
theorem ba_eq (x y : ByteArray) : (x.toList == y.toList) = decide (x = y) := by
  rw [Bool.eq_iff_iff, beq_iff_eq, decide_eq_true_eq, ba_list, ba_list]
  constructor
  · intro h
    cases x; cases y
    simp only [Array.toList_inj] at h
    rw [h]
  · rintro rfl; rfl
theorem lt_eq (c d : Lt) : (c.id == d.id && (c.fr == d.fr && (c.to == d.to && (c.rd == d.rd && (c.data.toList == d.data.toList))))) = decide (c = d) := by
  rw [ba_eq, Bool.eq_iff_iff]
  cases c; cases d
  simp
theorem tm_ne {c d : Tm} (h : c ≠ d) : (c.t != d.t || (c.node != d.node || (c.tag != d.tag))) = true ∧ (!(c.t == d.t) || (!(c.node == d.node) || !(c.tag == d.tag))) = true := by
  have := tm_eq c d
  rw [decide_eq_false h] at this
  cases h1 : (c.t == d.t) <;> cases h2 : (c.node == d.node) <;> cases h3 : (c.tag == d.tag) <;> simp_all
theorem lt_ne {c d : Lt} (h : c ≠ d) : (!(c.id == d.id) || (!(c.fr == d.fr) || (!(c.to == d.to) || (!(c.rd == d.rd) || !(c.data.toList == d.data.toList))))) = true := by
  have := lt_eq c d
  rw [decide_eq_false h] at this
  cases h1 : (c.id == d.id) <;> cases h2 : (c.fr == d.fr) <;> cases h3 : (c.to == d.to) <;> cases h4 : (c.rd == d.rd) <;> cases h5 : (c.data.toList == d.data.toList) <;> simp_all
theorem eq_step {α : Type} [DecidableEq α] {xs ys : List α} {k : Nat} {x y : α} (hx : Hid (xs[k]? = some x)) (hy : Hid (ys[k]? = some y)) (h : xs.take k = ys.take k) : (x = y → xs.take (k + 1) = ys.take (k + 1)) ∧ (x ≠ y → xs ≠ ys) := by
  constructor
  · rintro rfl
    rw [List.take_add_one, List.take_add_one, h, hx.out, hy.out]
  · rintro hne rfl
    have := hx.out.symm.trans hy.out
    exact hne (Option.some.inj this)

set_option maxHeartbeats 2000000 in
set_option maxRecDepth 100000 in
theorem RSameTimers_any (A1 A2 : Option Addr) (c1 c2 : Nat) (xs ys : List Tm) (w : World) (h1 : Rd w A1 xs) (h2 : Rd w A2 ys) (hl : xs.length ≤ 10000000) :
    Calls Tryz.prog 30 #[.slice A1 xs.length c1, .slice A2 ys.length c2] w fun e w' => e = .returned (.bool (decide (xs = ys))) ∧ Below w.heap.size w w' := by
  by_cases hlen : xs.length = ys.length
  · have q1 : (xs.length == ys.length) = true := by simpa using hlen
    have q2 : (xs.length != ys.length) = false := by simpa using hlen
    have q3 : ((xs.length : Int) == (ys.length : Int)) = true := by rw [beq_iff_eq]; omega
    have q4 : ((xs.length : Int) != (ys.length : Int)) = false := by rw [bne_eq_false_iff_eq]; omega
    have HLE := Lib.hid hlen
    have H1 := Lib.hid h1
    have H2 := Lib.hid h2
    clear hlen h1 h2
    go_enter Tryz.func30, Tryz.ntmps30
    go_wp2
    go_loopw [5] (fun i wr => ∃ k : Nat, k ≤ xs.length ∧ i = .int .i64 k ∧ Hid (xs.take k = ys.take k) ∧ Hid (Below w.heap.size w wr)) (fun i _ => xs.length - (intOf i).toNat)
    case atStart => exact ⟨0, Nat.zero_le _, rfl, rfl, Below.refl _ _⟩
    case round =>
      obtain ⟨k, hk, rfl, ho, hB⟩ := hrel
      by_cases hlt : k < xs.length
      · have hlt2 : k < ys.length := by have := HLE.out; omega
        have d1 : decide (k < xs.length) = true := by simpa using hlt
        obtain ⟨b1, off1, x, rfl, hx, c0, c1, c2⟩ := (H1.out.below hB.out).tm k hlt
        obtain ⟨b2, off2, y, rfl, hy, d0, d1, d2⟩ := (H2.out.below hB.out).tm k hlt2
        have hs := eq_step hx hy ho.out
        by_cases hxy : x = y
        · have hn := Lib.hid (hs.1 hxy)
          clear hs
          subst hxy
          go_wp2
          go_quiet (fail)
          go_wp2
          go_roundw
          case rel => exact ⟨k + 1, by omega, by go_num, hn.out, hB.out.trans (below_drewN (Below.refl _ _) _)⟩
          case measure => simp [intOf]; omega
        · have hn := Lib.hid (hs.2 hxy)
          clear hs
          have hq := tm_ne hxy
          have hq1 := (tm_eq x y).trans (decide_eq_false hxy)
          have HXY := Lib.hid hxy
          clear hxy
          go_wp2
          go_quiet (fail)
          go_wp2
          go_ret
          exact ⟨ret_bool (decide_eq_false hn.out).symm, hB.out.trans (below_drewN (Below.refl _ _) _)⟩
      · have d1 : decide (k < xs.length) = false := by simpa using hlt
        have hkl : k = xs.length := by omega
        have HKL := Lib.hid hkl
        clear hkl
        go_wp2
        go_ret
        have he : xs = ys := by
          have h := ho.out
          rw [HKL.out, List.take_length, HLE.out, List.take_length] at h
          exact h
        exact ⟨ret_bool (decide_eq_true he).symm, hB.out⟩
  · have q1 : (xs.length == ys.length) = false := by simpa using hlen
    have q2 : (xs.length != ys.length) = true := by simpa using hlen
    have q3 : ((xs.length : Int) == (ys.length : Int)) = false := by rw [beq_eq_false_iff_ne]; omega
    have q4 : ((xs.length : Int) != (ys.length : Int)) = true := by rw [bne_iff_ne]; omega
    have hne : Hid (xs ≠ ys) := fun h => hlen (by rw [h])
    clear hlen
    go_enter Tryz.func30, Tryz.ntmps30
    go_wp2
    go_ret
    exact ⟨ret_bool (decide_eq_false hne.out).symm, Below.refl _ _⟩

set_option maxHeartbeats 2000000 in
set_option maxRecDepth 100000 in
theorem RSameLetters_any (A1 A2 : Option Addr) (c1 c2 : Nat) (xs ys : List Lt) (w : World) (h1 : Rd w A1 xs) (h2 : Rd w A2 ys) (hl : xs.length ≤ 10000000) :
    Calls Tryz.prog 29 #[.slice A1 xs.length c1, .slice A2 ys.length c2] w fun e w' => e = .returned (.bool (decide (xs = ys))) ∧ Below w.heap.size w w' := by
  by_cases hlen : xs.length = ys.length
  · have q1 : (xs.length == ys.length) = true := by simpa using hlen
    have q2 : (xs.length != ys.length) = false := by simpa using hlen
    have q3 : ((xs.length : Int) == (ys.length : Int)) = true := by rw [beq_iff_eq]; omega
    have q4 : ((xs.length : Int) != (ys.length : Int)) = false := by rw [bne_eq_false_iff_eq]; omega
    have HLE := Lib.hid hlen
    have H1 := Lib.hid h1
    have H2 := Lib.hid h2
    clear hlen h1 h2
    go_enter Tryz.func29, Tryz.ntmps29
    go_wp2
    go_loopw [5] (fun i wr => ∃ k : Nat, k ≤ xs.length ∧ i = .int .i64 k ∧ Hid (xs.take k = ys.take k) ∧ Hid (Below w.heap.size w wr)) (fun i _ => xs.length - (intOf i).toNat)
    case atStart => exact ⟨0, Nat.zero_le _, rfl, rfl, Below.refl _ _⟩
    case round =>
      obtain ⟨k, hk, rfl, ho, hB⟩ := hrel
      by_cases hlt : k < xs.length
      · have hlt2 : k < ys.length := by have := HLE.out; omega
        have d1 : decide (k < xs.length) = true := by simpa using hlt
        obtain ⟨b1, off1, x, rfl, hx, c0, c1, c2, c3, c4⟩ := (H1.out.below hB.out).lt k hlt
        obtain ⟨b2, off2, y, rfl, hy, d0, d1, d2, d3, d4⟩ := (H2.out.below hB.out).lt k hlt2
        have hs := eq_step hx hy ho.out
        by_cases hxy : x = y
        · have hn := Lib.hid (hs.1 hxy)
          clear hs
          subst hxy
          go_wp2
          go_quiet (fail)
          go_wp2
          go_roundw
          case rel => exact ⟨k + 1, by omega, by go_num, hn.out, hB.out.trans (below_drewN (Below.refl _ _) _)⟩
          case measure => simp [intOf]; omega
        · have hn := Lib.hid (hs.2 hxy)
          clear hs
          have hq := lt_ne hxy
          have hq1 := (lt_eq x y).trans (decide_eq_false hxy)
          have HXY := Lib.hid hxy
          clear hxy
          go_wp2
          go_quiet (fail)
          go_wp2
          go_ret
          exact ⟨ret_bool (decide_eq_false hn.out).symm, hB.out.trans (below_drewN (Below.refl _ _) _)⟩
      · have d1 : decide (k < xs.length) = false := by simpa using hlt
        have hkl : k = xs.length := by omega
        have HKL := Lib.hid hkl
        clear hkl
        go_wp2
        go_ret
        have he : xs = ys := by
          have h := ho.out
          rw [HKL.out, List.take_length, HLE.out, List.take_length] at h
          exact h
        exact ⟨ret_bool (decide_eq_true he).symm, hB.out⟩
  · have q1 : (xs.length == ys.length) = false := by simpa using hlen
    have q2 : (xs.length != ys.length) = true := by simpa using hlen
    have q3 : ((xs.length : Int) == (ys.length : Int)) = false := by rw [beq_eq_false_iff_ne]; omega
    have q4 : ((xs.length : Int) != (ys.length : Int)) = true := by rw [bne_iff_ne]; omega
    have hne : Hid (xs ≠ ys) := fun h => hlen (by rw [h])
    clear hlen
    go_enter Tryz.func29, Tryz.ntmps29
    go_wp2
    go_ret
    exact ⟨ret_bool (decide_eq_false hne.out).symm, Below.refl _ _⟩

set_option maxHeartbeats 2000000 in
set_option maxRecDepth 100000 in
theorem EqualT_any (A1 A2 : Option Addr) (c1 c2 : Nat) (xs ys : List Tm) (w : World) (h1 : Rd w A1 xs) (h2 : Rd w A2 ys) (hl : xs.length ≤ 10000000) :
    Calls Tryz.prog 93 #[.slice A1 xs.length c1, .slice A2 ys.length c2] w fun e w' => e = .returned (.bool (decide (xs = ys))) ∧ Below w.heap.size w w' := by
  by_cases hlen : xs.length = ys.length
  · have q1 : (xs.length == ys.length) = true := by simpa using hlen
    have q2 : (xs.length != ys.length) = false := by simpa using hlen
    have q3 : ((xs.length : Int) == (ys.length : Int)) = true := by rw [beq_iff_eq]; omega
    have q4 : ((xs.length : Int) != (ys.length : Int)) = false := by rw [bne_eq_false_iff_eq]; omega
    have HLE := Lib.hid hlen
    have H1 := Lib.hid h1
    have H2 := Lib.hid h2
    clear hlen h1 h2
    go_enter Tryz.func93, Tryz.ntmps93
    go_wp2
    go_loopw [13] (fun i wr => ∃ k : Nat, k ≤ xs.length ∧ i = .int .i64 k ∧ Hid (xs.take k = ys.take k) ∧ Hid (Below w.heap.size w wr)) (fun i _ => xs.length - (intOf i).toNat)
    case atStart => exact ⟨0, Nat.zero_le _, rfl, rfl, Below.refl _ _⟩
    case round =>
      obtain ⟨k, hk, rfl, ho, hB⟩ := hrel
      by_cases hlt : k < xs.length
      · have hlt2 : k < ys.length := by have := HLE.out; omega
        have d1 : decide (k < xs.length) = true := by simpa using hlt
        obtain ⟨b1, off1, x, rfl, hx, c0, c1, c2⟩ := (H1.out.below hB.out).tm k hlt
        obtain ⟨b2, off2, y, rfl, hy, d0, d1, d2⟩ := (H2.out.below hB.out).tm k hlt2
        have hs := eq_step hx hy ho.out
        by_cases hxy : x = y
        · have hn := Lib.hid (hs.1 hxy)
          clear hs
          subst hxy
          go_wp2
          go_quiet (fail)
          go_wp2
          go_roundw
          case rel => exact ⟨k + 1, by omega, by go_num, hn.out, hB.out.trans (below_drewN (Below.refl _ _) _)⟩
          case measure => simp [intOf]; omega
        · have hn := Lib.hid (hs.2 hxy)
          clear hs
          have hq := tm_ne hxy
          have hq1 := (tm_eq x y).trans (decide_eq_false hxy)
          have HXY := Lib.hid hxy
          clear hxy
          go_wp2
          go_quiet (fail)
          go_wp2
          go_ret
          exact ⟨ret_bool (decide_eq_false hn.out).symm, hB.out.trans (below_drewN (Below.refl _ _) _)⟩
      · have d1 : decide (k < xs.length) = false := by simpa using hlt
        have hkl : k = xs.length := by omega
        have HKL := Lib.hid hkl
        clear hkl
        go_wp2
        go_ret
        have he : xs = ys := by
          have h := ho.out
          rw [HKL.out, List.take_length, HLE.out, List.take_length] at h
          exact h
        exact ⟨ret_bool (decide_eq_true he).symm, hB.out⟩
  · have q1 : (xs.length == ys.length) = false := by simpa using hlen
    have q2 : (xs.length != ys.length) = true := by simpa using hlen
    have q3 : ((xs.length : Int) == (ys.length : Int)) = false := by rw [beq_eq_false_iff_ne]; omega
    have q4 : ((xs.length : Int) != (ys.length : Int)) = true := by rw [bne_iff_ne]; omega
    have hne : Hid (xs ≠ ys) := fun h => hlen (by rw [h])
    clear hlen
    go_enter Tryz.func93, Tryz.ntmps93
    go_wp2
    go_ret
    exact ⟨ret_bool (decide_eq_false hne.out).symm, Below.refl _ _⟩

end Go.Proofs.YthlbmcfliejdiaaGreat
end

section
set_option linter.unusedVariables false
set_option linter.unusedSimpArgs false
namespace Go.Proofs.YthlbmcfliejdiaaGreat
open Go.RowKit

def prevC (p : Option Lk) (c : Lk) : Bool := match p with | none => true | some q => decide (lkCmp q c < 0)
def cutsR (nodes : Int) : Option Lk → List Lk → Bool
  | _, [] => true
  | p, c :: r => linkB nodes c && prevC p c && cutsR nodes (some c) r
def nePair (t s : Tm) : Bool := !(s.node == t.node && s.tag == t.tag)
def prevOk (p : Option Tm) (t : Tm) : Bool := match p with | none => true | some q => lesserB q t
def tmsR (nodes now : Int) : List Tm → List Tm → Bool
  | _, [] => true
  | pre, t :: r => isTimerB nodes now t && prevOk pre.getLast? t && pre.all (nePair t) && tmsR nodes now (pre ++ [t]) r
theorem cutsR_eq (nodes : Int) : ∀ (cs : List Lk) (p : Option Lk), cutsR nodes p cs = (cs.all (linkB nodes) && risesF lkCmp (p.toList ++ cs))
  | [], p => by cases p <;> rfl
  | c :: r, p => by
    have ih := cutsR_eq nodes r (some c)
    rw [cutsR, ih, List.all_cons]
    cases p with
    | none =>
      show _ = (_ && risesF lkCmp (c :: r))
      show (linkB nodes c && true && (r.all (linkB nodes) && risesF lkCmp (c :: r))) = _
      rw [Bool.and_true, Bool.and_assoc]
    | some q =>
      show (linkB nodes c && decide (lkCmp q c < 0) && (r.all (linkB nodes) && risesF lkCmp (c :: r))) = (linkB nodes c && r.all (linkB nodes) && (decide (lkCmp q c < 0) && risesF lkCmp (c :: r)))
      generalize linkB nodes c = b1; generalize r.all (linkB nodes) = b2; generalize decide (lkCmp q c < 0) = b3; generalize risesF lkCmp (c :: r) = b4
      revert b1 b2 b3 b4; decide
theorem nePair_all (t : Tm) (pre : List Tm) : pre.all (nePair t) = !decide ((t.node, t.tag) ∈ pre.map fun s => (s.node, s.tag)) := by
  rw [Bool.eq_iff_iff]
  simp only [List.all_eq_true, Bool.not_eq_true', decide_eq_false_iff_not, List.mem_map, not_exists, not_and, nePair, Bool.and_eq_false_iff, beq_eq_false_iff_ne, Prod.mk.injEq]
  constructor
  · intro h s hs h1 h2
    rcases h s hs with h3 | h3
    · exact h3 h1
    · exact h3 h2
  · intro h s hs
    by_cases h1 : s.node = t.node
    · exact .inr (h s hs h1)
    · exact .inl h1
theorem tmsR_eq (nodes now : Int) : ∀ (ts pre : List Tm), tmsR nodes now pre ts = (risesF tmCmp (pre.getLast?.toList ++ ts) && tmsB nodes now (pre.map fun s => (s.node, s.tag)) ts)
  | [], pre => by cases h : pre.getLast? <;> rfl
  | t :: r, pre => by
    have ih := tmsR_eq nodes now r (pre ++ [t])
    rw [tmsR, ih, tmsB, nePair_all, List.getLast?_append, List.map_append]
    show (isTimerB nodes now t && prevOk pre.getLast? t && _ && (risesF tmCmp (t :: r) && tmsB nodes now (pre.map (fun s => (s.node, s.tag)) ++ [(t.node, t.tag)]) r)) = _
    cases h : pre.getLast? with
    | none =>
      show (isTimerB nodes now t && true && _ && (risesF tmCmp (t :: r) && _)) = (risesF tmCmp (t :: r) && _)
      generalize isTimerB nodes now t = b1; generalize (!decide ((t.node, t.tag) ∈ pre.map fun s => (s.node, s.tag))) = b2; generalize risesF tmCmp (t :: r) = b3
      generalize tmsB nodes now (pre.map (fun s => (s.node, s.tag)) ++ [(t.node, t.tag)]) r = b4
      revert b1 b2 b3 b4; decide
    | some q =>
      show (isTimerB nodes now t && lesserB q t && _ && (risesF tmCmp (t :: r) && _)) = (decide (tmCmp q t < 0) && risesF tmCmp (t :: r) && _)
      rw [lesserB]
      generalize isTimerB nodes now t = b1; generalize (!decide ((t.node, t.tag) ∈ pre.map fun s => (s.node, s.tag))) = b2; generalize risesF tmCmp (t :: r) = b3
      generalize tmsB nodes now (pre.map (fun s => (s.node, s.tag)) ++ [(t.node, t.tag)]) r = b4
      generalize decide (tmCmp q t < 0) = b5
      revert b1 b2 b3 b4 b5; decide
def preB (x : Nt) : Prop := 1 ≤ x.nodes ∧ x.nodes ≤ 16 ∧ 0 ≤ x.now ∧ x.now ≤ 1099511627776 ∧ 0 ≤ x.next ∧ x.next ≤ 1099511627776 ∧ x.way.length ≤ 200 ∧ x.timers.length ≤ 64
theorem checkB_no {x : Nt} (h : ¬ preB x) : checkB x = false := by
  cases hc : checkB x with
  | false => rfl
  | true =>
    exfalso
    apply h
    simp only [checkB, Bool.and_eq_true, decide_eq_true_eq] at hc
    obtain ⟨⟨⟨⟨⟨⟨⟨⟨⟨⟨⟨⟨h1, h2⟩, h3⟩, h4⟩, h5⟩, h6⟩, h7⟩, h8⟩, -⟩, -⟩, -⟩, -⟩, -⟩ := hc
    exact ⟨h1, h2, h3, h4, h5, h6, h7, h8⟩
theorem checkB_loops {x : Nt} (h : preB x) : checkB x = (x.way.all (isLetterB x.nodes x.next) && (cutsR x.nodes none x.cuts && tmsR x.nodes x.now [] x.timers)) := by
  obtain ⟨h1, h2, h3, h4, h5, h6, h7, h8⟩ := h
  rw [cutsR_eq, tmsR_eq]
  show checkB x = (_ && (_ && risesF lkCmp x.cuts && (risesF tmCmp x.timers && tmsB x.nodes x.now [] x.timers)))
  unfold checkB
  rw [decide_eq_true h1, decide_eq_true h2, decide_eq_true h3, decide_eq_true h4, decide_eq_true h5, decide_eq_true h6, decide_eq_true h7, decide_eq_true h8]
  generalize risesF lkCmp x.cuts = b1; generalize risesF tmCmp x.timers = b2; generalize x.way.all (isLetterB x.nodes x.next) = b3
  generalize x.cuts.all (linkB x.nodes) = b4; generalize tmsB x.nodes x.now [] x.timers = b5
  revert b1 b2 b3 b4 b5; decide
theorem isLetterB_eq (nodes next : Int) (l : Lt) : isLetterB nodes next l = (isNodeB nodes l.fr && isNodeB nodes l.to && decide (l.fr ≠ l.to) && decide (0 ≤ l.id) && decide (l.id < next) && isTimeB l.rd && decide (l.data.size ≤ 500000)) := by
  unfold isLetterB isTimeB
  simp only [Bool.and_assoc]
theorem isTimerB_eq {nodes now : Int} (h : 0 ≤ now) (t : Tm) : isTimerB nodes now t = (isNodeB nodes t.node && decide (0 ≤ t.tag) && decide (t.tag ≤ 2147483647) && decide (now < t.t) && isTimeB t.t) := by
  unfold isTimerB isTimeB
  by_cases h1 : now < t.t
  · rw [decide_eq_true h1, decide_eq_true (show 0 ≤ t.t by omega)]; simp
  · rw [decide_eq_false h1]; simp
theorem lkCmp_lt (c d : Lk) : lkCmp c d < 0 ↔ c.a < d.a ∨ c.a = d.a ∧ c.b < d.b := by
  unfold lkCmp; exact linkCmp_lt _ _ _ _
def prevO {α : Type} (xs : List α) : Nat → Option α
  | 0 => none
  | k + 1 => xs[k]?
theorem last_take {α : Type} (xs : List α) (k : Nat) (h : k ≤ xs.length) : (xs.take k).getLast? = prevO xs k := by
  cases k with
  | zero => simp [prevO]
  | succ m =>
    rw [List.getLast?_take]
    simp [prevO]
    have : m < xs.length := h
    rw [List.getElem?_eq_getElem this]; rfl
theorem letter_iff (nodes next : Int) (l : Lt) : isLetterB nodes next l = true ↔ isNodeB nodes l.fr = true ∧ isNodeB nodes l.to = true ∧ (l.fr == l.to) = false ∧ 0 ≤ l.id ∧ l.id < next ∧ isTimeB l.rd = true ∧ l.data.size ≤ 500000 := by
  rw [isLetterB_eq]
  simp only [Bool.and_eq_true, decide_eq_true_eq, beq_eq_false_iff_ne, and_assoc]
theorem link_iff (nodes : Int) (c : Lk) : linkB nodes c = true ↔ isNodeB nodes c.a = true ∧ isNodeB nodes c.b = true ∧ c.a < c.b := by
  unfold linkB
  simp only [Bool.and_eq_true, decide_eq_true_eq, and_assoc]
theorem timer_iff {nodes now : Int} (h : 0 ≤ now) (t : Tm) : isTimerB nodes now t = true ↔ isNodeB nodes t.node = true ∧ 0 ≤ t.tag ∧ t.tag ≤ 2147483647 ∧ now < t.t ∧ isTimeB t.t = true := by
  rw [isTimerB_eq h]
  simp only [Bool.and_eq_true, decide_eq_true_eq, and_assoc]
end Go.Proofs.YthlbmcfliejdiaaGreat
end

section
set_option linter.unusedVariables false
set_option linter.unusedSimpArgs false
namespace Go.Proofs.YthlbmcfliejdiaaGreat
open Go.RowKit

def upd (f : Nat → Value) (i : Nat) (v : Value) : Nat → Value := fun j => if j = i then v else f j
theorem upd_ne {f : Nat → Value} {i j : Nat} {v : Value} (h : j ≠ i) : upd f i v j = f j := if_neg h
def st (n : Nat) (f : Nat → Value) : Act := ⟨((List.range n).map f).toArray, []⟩
theorem st_get {n i : Nat} {f : Nat → Value} (h : i < n) : (st n f).tmps[i]? = some (f i) := by
  simp [st, h]
theorem st_eval {n i : Nat} {f : Nat → Value} (h : i < n) : (st n f).eval (.tmp i) = f i := by
  show (st n f).tmps.getD i undef = f i
  rw [Array.getD_eq_getD_getElem?, st_get h]; rfl
theorem st_getD {n i : Nat} {f : Nat → Value} (h : i < n) : (st n f).tmps.getD i undef = f i := st_eval h
theorem st_const {n : Nat} {f : Nat → Value} (v : Value) : (st n f).eval (.const v) = v := rfl
theorem st_func {n : Nat} {f : Nat → Value} (g : FuncId) : (st n f).eval (.func g) = .func (.func g) #[] #[] := rfl
theorem st_put {n i : Nat} {f : Nat → Value} (v : Value) (h : i < n) : (st n f).put (some i) v = st n (upd f i v) := by
  unfold st Act.put upd
  simp only [Act.mk.injEq, and_true]
  apply Array.ext'
  simp only [Array.toList_setIfInBounds]
  apply List.ext_getElem
  · simp
  · intro k h1 h2
    simp only [List.getElem_set, List.getElem_map, List.getElem_range]
    by_cases hk : i = k
    · subst hk; simp
    · rw [if_neg hk, if_neg (fun h => hk h.symm)]
theorem st_of {l : List Value} (n : Nat) (h : l.length = n) : (⟨l.toArray, []⟩ : Act) = st n (fun i => l.getD i undef) := by
  unfold st
  simp only [Act.mk.injEq, and_true]
  congr 1
  apply List.ext_getElem
  · simp [h]
  · intro k h1 h2
    simp [List.getD_eq_getElem?_getD, List.getElem?_eq_getElem h1]

section
variable {P : Program} {ops : Array Oper} {Q : Exit → Act → World → Prop} {C : World → Prop} {K : Act → World → Prop}
theorem wp_st {c : Code} {W : World} {l : List Value} (n : Nat) (hn : l.length = n) (h : ∀ f : Nat → Value, (∀ i, f i = l.getD i undef) → c.wp P Q (st n f) W) : c.wp P Q ⟨l.toArray, []⟩ W := by
  rw [st_of n hn]; exact h _ (fun _ => rfl)
theorem want_st {n : Nat} {f : Nat → Value} {o oj : Oper} {j i : Nat} {b : Bool} (hg : o.guard = some (j, b)) (hj : ops[j]? = some oj) (hd : oj.dst = some i) (hi : i < n) (hf : f i = .bool b) :
    Region.wanted o (yielded ops (st n f).tmps) = true := by
  have hy : yielded ops (st n f).tmps j = some b := by
    unfold yielded
    rw [hj]
    simp only [Option.bind_some, hd, st_get hi, hf]
  unfold Region.wanted
  rw [hg]
  simp [hy]
theorem want_st_no {n : Nat} {f : Nat → Value} {o oj : Oper} {j i : Nat} {b : Bool} (hg : o.guard = some (j, b)) (hj : ops[j]? = some oj) (hd : oj.dst = some i) (hi : i < n) (hf : f i = .bool (!b)) :
    Region.wanted o (yielded ops (st n f).tmps) = false := by
  have hy : yielded ops (st n f).tmps j = some (!b) := by
    unfold yielded
    rw [hj]
    simp only [Option.bind_some, hd, st_get hi, hf]
  unfold Region.wanted
  rw [hg]
  simp [hy]
theorem want_st_un {n : Nat} {f : Nat → Value} {o oj : Oper} {j i : Nat} {b : Bool} (hg : o.guard = some (j, b)) (hj : ops[j]? = some oj) (hd : oj.dst = some i) (hi : i < n) (hf : f i = undef) :
    Region.wanted o (yielded ops (st n f).tmps) = false := by
  have hy : yielded ops (st n f).tmps j = none := by
    unfold yielded
    rw [hj]
    simp only [Option.bind_some, hd, st_get hi, hf]
    rfl
  unfold Region.wanted
  rw [hg]
  simp [hy]
theorem want_none {o : Oper} {y : Nat → Option Bool} (hg : o.guard = none) : Region.wanted o y = true := by
  unfold Region.wanted; rw [hg]
theorem mixS_take {n : Nat} {f : Nat → Value} {w : World} {o : Oper} {r : List (Oper × Bool)} {i : Nat} {v : Value} (hd : o.dst = some i) (hi : i < n) (hw : Region.wanted o (yielded ops (st n f).tmps) = true)
    (hy : ∀ W, C W → (execOp (st n f).eval o).run P W = .ok (.value v) W) (h : wpMix P ops C K Q r (st n (upd f i v)) w) : wpMix P ops C K Q ((o, true) :: r) (st n f) w :=
  mix_take v hw hy (by rw [hd, st_put v hi]; exact h)
theorem mixS_skip {n : Nat} {f : Nat → Value} {w : World} {o : Oper} {r : List (Oper × Bool)} {i : Nat} (hd : o.dst = some i) (hi : i < n) (hw : Region.wanted o (yielded ops (st n f).tmps) = false)
    (h : wpMix P ops C K Q r (st n (upd f i undef)) w) : wpMix P ops C K Q ((o, true) :: r) (st n f) w :=
  mix_skip hw (by rw [hd, st_put undef hi]; exact h)
theorem mixS_call {n : Nat} {f : Nat → Value} {w : World} {o : Oper} {r : List (Oper × Bool)} {i : Nat} {F : FuncId} {args : Array Value} {u : Value} (hd : o.dst = some i) (hi : i < n) (hw : Region.wanted o (yielded ops (st n f).tmps) = true)
    (he : (execOp (st n f).eval o).run P w = .ok (.enter F args) w) (hc : Calls P F args w fun e w' => e = .returned u ∧ Below w.heap.size w w')
    (h : ∀ w', Below w.heap.size w w' → C w' ∧ wpMix P ops C K Q r (st n (upd f i u)) w') : wpMix P ops C K Q ((o, false) :: r) (st n f) w := by
  show wpList P ops _ [o] (st n f) w
  unfold wpList
  rw [if_pos hw]
  left
  unfold Oper.wp
  rw [he, Oper.upon_enter]
  refine hc.mono ?_
  rintro e w' ⟨rfl, hb⟩
  show wpList P ops _ [] ((st n f).put o.dst u) w'
  rw [hd, st_put u hi]
  exact h w' hb
theorem mixS_none {n : Nat} {f : Nat → Value} {w : World} {o : Oper} {r : List (Oper × Bool)} {i : Nat} (hd : o.dst = some i) (hi : i < n) (hw : Region.wanted o (yielded ops (st n f).tmps) = false) (hC : C w)
    (h : wpMix P ops C K Q r (st n (upd f i undef)) w) : wpMix P ops C K Q ((o, false) :: r) (st n f) w := by
  show wpList P ops _ [o] (st n f) w
  unfold wpList
  rw [if_neg (by rw [hw]; decide)]
  show wpList P ops _ [] ((st n f).put o.dst undef) w
  rw [hd, st_put undef hi]
  exact ⟨hC, h⟩
end
end Go.Proofs.YthlbmcfliejdiaaGreat
end

section
set_option linter.unusedVariables false
set_option linter.unusedSimpArgs false
namespace Go.Proofs.YthlbmcfliejdiaaGreat
open Go.RowKit

section
variable {P : Program} {ops : Array Oper} {Q : Exit → Act → World → Prop} {md : Region.Mode} {C : World → Prop} {m : Nat}
/-- The way from operation i up to operation m is told: nx i waits for i. -/
def Region.waitsV (md : Region.Mode) (ops : Array Oper) (nx : List Nat) : Nat → Nat → Nat → Bool
  | 0, _, _ => false
  | f + 1, m, i => Region.waitsFor md ops m i || (Region.waitsFor md ops (nx.getD i 0) i && Region.waitsV md ops nx f m (nx.getD i 0))
theorem waitsT_one {f m i : Nat} (h : Region.waitsFor md ops m i = true) : Region.waitsT md ops (f + 1) m i = true := by
  obtain ⟨o, ho, e, he, hb, hi⟩ := Region.waitsFor_spec h
  unfold Region.waitsT
  simp only [ho, Array.any_eq_true', Bool.and_eq_true, Bool.or_eq_true, decide_eq_true_eq]
  exact ⟨e, he, hb, .inl hi⟩
theorem waitsT_step : ∀ {f m k i : Nat}, Region.waitsT md ops f m k = true → Region.waitsFor md ops k i = true → Region.waitsT md ops (f + 1) m i = true
  | 0, m, k, i, h, _ => by simp [Region.waitsT] at h
  | f + 1, m, k, i, h, hk => by
    unfold Region.waitsT at h
    rw [Region.waitsT]
    cases ho : ops[m]? with
    | none => simp [ho] at h
    | some o =>
      simp only [ho, Array.any_eq_true', Bool.and_eq_true, Bool.or_eq_true, decide_eq_true_eq] at h ⊢
      obtain ⟨e, he, hb, h | h⟩ := h
      · subst h
        exact ⟨e, he, hb, .inr (waitsT_one hk)⟩
      · exact ⟨e, he, hb, .inr (waitsT_step h hk)⟩
theorem waitsV_T (nx : List Nat) : ∀ (f m i : Nat), Region.waitsV md ops nx f m i = true → Region.waitsT md ops f m i = true
  | 0, m, i, h => by simp [Region.waitsV] at h
  | f + 1, m, i, h => by
    unfold Region.waitsV at h
    simp only [Bool.or_eq_true, Bool.and_eq_true] at h
    rcases h with h | ⟨h1, h2⟩
    · exact waitsT_one h
    · exact waitsT_step (waitsV_T nx f m _ h2) h1
def Region.mixVB (nx : List Nat) (md : Region.Mode) (ops : Array Oper) (n : Nat) : List (Nat × Bool) → Array Bool → Bool
  | [], L => Region.seqB md ops (ops.size - n) n L
  | (i, true) :: r, L => (Region.ready md ops L).contains i && Region.free md ops L i && Region.waitsV md ops nx 60 n i && !decide (i = n) && !(L.getD n true) && Region.mixVB nx md ops n r (L.setIfInBounds i true)
  | (i, false) :: r, L => decide (Region.ready md ops L = [i]) && !decide (i = n) && !(L.getD n true) && Region.mixVB nx md ops n r (L.setIfInBounds i true)

theorem wpAnyG_of_mixV {nx : List Nat} {l : List Oper} {n : Nat} (hsel : Region.noSelect l.toArray = true) (hQ : ∀ (d : Option Tmp) (v : Value) c a w, Q (.panic c) (a.put d v) w → Q (.panic c) a w) (hn : n < l.length) :
    ∀ (s : List (Nat × Bool)) (L : Array Bool) (a : Act) (w : World), (∀ p ∈ s, p.1 < l.length) → Region.mixVB nx md l.toArray n s L = true → Closed md l.toArray L → C w →
      wpMix P l.toArray C (fun a' w' => wpList P l.toArray Q (l.drop n) a' w') Q (pick l s) a w → wpAnyG P md l.toArray Q C n (s.length + (l.length - n)) L a w
  | [], L, a, w, _, hB, _, hC, h => by
    have hdl : (l.drop n).length = l.length - n := by simp
    have hB' : Region.seqB md l.toArray (l.drop n).length n L = true := by rw [hdl]; simpa [Region.mixVB] using hB
    have hw := wpAny_of_seq (md := md) (Q' := Q) (l.drop n) n L a w (fun j => by simp [List.getElem?_drop]) hB' h
    rw [hdl] at hw
    rw [List.length_nil, Nat.zero_add]
    -- the first of the tail is n: behind it nothing is asked of C
    obtain ⟨g, hg⟩ : ∃ g, l.length - n = g + 1 := ⟨l.length - n - 1, by omega⟩
    rw [hg] at hw ⊢
    refine ⟨hw.1, fun i hi => wpOp_mono (fun a' w' h' => ?_) (hw.2 i hi)⟩
    have hin : i = n := by
      rw [hdl, hg] at hB'
      simp only [Region.seqB, Bool.and_eq_true, decide_eq_true_eq] at hB'
      rw [hB'.1] at hi
      simpa using hi
    subst hin
    have hmi : (L.setIfInBounds i true).getD i true = true := getD_self _ _
    exact ⟨fun h0 => (by rw [hmi] at h0; cases h0), wpAnyG_of_any _ _ _ _ hmi h'⟩
  | (i, true) :: s, L, a, w, hs, hB, hcl, hC, h => by
    have hil : i < l.length := hs (i, true) (by simp)
    have h0 : l.toArray[i]? = some (l.getD i default) := by simp [List.getD_eq_getElem?_getD, List.getElem?_eq_getElem hil]
    simp only [Region.mixVB, Bool.and_eq_true, Bool.not_eq_true', decide_eq_false_iff_not] at hB
    obtain ⟨⟨⟨⟨⟨hr, hf⟩, hwt⟩, hin⟩, hL⟩, hB'⟩ := hB
    obtain ⟨v, hy, hK⟩ := h
    have hr' : i ∈ Region.ready md l.toArray L := by simpa using hr
    rw [List.length_cons, show s.length + 1 + (l.length - n) = s.length + (l.length - n) + 1 by omega]
    exact wpAnyG_firstT h0 (Region.noSelect_spec hsel) (fun c a w => hQ _ _ c a w) (waitsV_T nx _ _ _ hwt) hin _ L a w hcl hL (Region.free_spec h0 hf) hr' hy hC
      (wpAnyG_of_mixV hsel hQ hn s _ _ w (fun p hp => hs p (List.mem_cons_of_mem _ hp)) hB' (hcl.set hr') hC hK)
  | (i, false) :: s, L, a, w, hs, hB, hcl, hC, h => by
    have hil : i < l.length := hs (i, false) (by simp)
    have h0 : l.toArray[i]? = some (l.getD i default) := by simp [List.getD_eq_getElem?_getD, List.getElem?_eq_getElem hil]
    simp only [Region.mixVB, Bool.and_eq_true, Bool.not_eq_true', decide_eq_false_iff_not, decide_eq_true_eq] at hB
    obtain ⟨⟨⟨hr, hin⟩, hL⟩, hB'⟩ := hB
    rw [List.length_cons, show s.length + 1 + (l.length - n) = s.length + (l.length - n) + 1 by omega]
    refine ⟨fun h1 => (by rw [hr] at h1; cases h1), fun j hj => ?_⟩
    rw [hr] at hj
    obtain rfl : j = i := by simpa using hj
    have hjr : j ∈ Region.ready md l.toArray L := by rw [hr]; simp
    have hw : wpOp P l.toArray Q j (fun a' w' => C w' ∧ wpMix P l.toArray C (fun a' w' => wpList P l.toArray Q (l.drop n) a' w') Q (pick l s) a' w') a w := by
      unfold wpOp
      simp only [h0]
      have h2 : wpList P l.toArray (Exit.then (fun a' w' => C w' ∧ wpMix P l.toArray C (fun a' w' => wpList P l.toArray Q (l.drop n) a' w') Q (pick l s) a' w') Q) [l.getD j default] a w := h
      unfold wpList at h2
      split
      · rename_i hw
        simp only [hw, if_true] at h2
        rcases h2 with h2 | h2
        · left
          unfold Oper.wp at *
          generalize (execOp a.eval (l.getD j default)).run P w = r at *
          cases r with
          | ok nx w' =>
            cases nx <;> simp only [Oper.upon] at h2 ⊢
            case value u => exact h2
            case skip => exact h2
            case defer d => exact h2
            case enter f args =>
              refine Calls.mono h2 fun e w'' he => ?_
              cases e with
              | returned u => exact he
              | panicked c => exact he
              | outgrown => exact he
            case row row args => exact Rows.mono h2 fun u w'' he => he
          | halt x w' =>
            cases x <;> simp only [Oper.upon] at h2 ⊢
            case panic u => exact h2
        · right
          exact h2
      · rename_i hw
        simp only [hw] at h2
        exact h2
    exact wpOp_mono (fun a' w' h' => ⟨fun _ => h'.1, wpAnyG_of_mixV hsel hQ hn s _ a' w' (fun p hp => hs p (List.mem_cons_of_mem _ hp)) hB' (hcl.set hjr) h'.1 h'.2⟩) hw

theorem wp_mixV (nx : List Nat) {id : Nat} {a : Act} {w : World} {l : List Oper} (s : List (Nat × Bool)) (n : Nat) (C : World → Prop) (hm : P.follows .mixedOrders = true) (hsel : Region.noSelect l.toArray = true)
    (hs : (s.all fun p => decide (p.1 < l.length)) = true) (hn : (decide (n < l.length) && decide (s.length + (l.length - n) = l.length)) = true) (hB : Region.mixVB nx .any l.toArray n s (Array.replicate l.length false) = true)
    (hQ : ∀ (d : Option Tmp) (v : Value) c a w, Q (.panic c) (a.put d v) w → Q (.panic c) a w) (hC : C w.drew)
    (h : wpMix P l.toArray C (fun a' w' => wpList P l.toArray Q (l.drop n) a' w') Q (pick l s) a w.drew) : (Code.region id l.toArray true).wp P Q a w := by
  simp only [Bool.and_eq_true, decide_eq_true_eq] at hn
  have hG := wpAnyG_of_mixV (md := .any) hsel hQ hn.1 s _ a w.drew (fun p hp => by simpa using List.all_eq_true.1 hs p hp) hB (fun k ok hk hkl => by
    have hk2 := (Array.getElem?_eq_some_iff.1 hk).1
    simp only [List.size_toArray] at hk2
    simp [hk2] at hkl) hC h
  rw [hn.2] at hG
  refine wp_region_any hm (wpAny_of_G (C := C) (m := n) _ _ _ _ ?_)
  simpa using hG

/-- .. where what is walked is behind names: the operations, what is to be shown behind them, what is to be shown at a panic. -/
theorem wp_mixW (nx : List Nat) {id : Nat} {a : Act} {w : World} {l : List Oper} (s : List (Nat × Bool)) (n : Nat) (C : World → Prop) (hm : P.follows .mixedOrders = true) (hsel : Region.noSelect l.toArray = true)
    (hs : (s.all fun p => decide (p.1 < l.length)) = true) (hn : (decide (n < l.length) && decide (s.length + (l.length - n) = l.length)) = true) (hB : Region.mixVB nx .any l.toArray n s (Array.replicate l.length false) = true)
    (hQ : ∀ (d : Option Tmp) (v : Value) c a w, Q (.panic c) (a.put d v) w → Q (.panic c) a w) (hC : C w.drew)
    (h : ∀ (ops : Array Oper) (K : Act → World → Prop) (Q' : Exit → Act → World → Prop), Hid (∀ (i : Nat) (o : Oper), l[i]? = some o → ops[i]? = some o) → Hid (∀ a' w', wpList P l.toArray Q (l.drop n) a' w' → K a' w') →
      wpMix P ops C K Q' (pick l s) a w.drew) : (Code.region id l.toArray true).wp P Q a w :=
  wp_mixV nx s n C hm hsel hs hn hB hQ hC (h l.toArray _ Q (fun i o h => by simpa using h) (fun _ _ h => h))
end
end Go.Proofs.YthlbmcfliejdiaaGreat
end

section
set_option linter.unusedVariables false
set_option linter.unusedSimpArgs false
namespace Go.Proofs.YthlbmcfliejdiaaGreat
open Go.RowKit
attribute [local go_sem high] eqATm eqALt eqAAc eqALk

theorem nt_eq {x y : Nt} (h1 : x.nodes = y.nodes) (h2 : x.now = y.now) (h3 : x.next = y.next) (h4 : x.way = y.way) (h5 : x.cuts = y.cuts) (h6 : x.timers = y.timers) : x = y := by
  cases x; cases y; simp_all
theorem lk_ne {c d : Lk} (h : c ≠ d) : (!(c.a == d.a) || !(c.b == d.b)) = true := by
  have := lk_eq c d
  rw [decide_eq_false h] at this
  cases h1 : (c.a == d.a) <;> cases h2 : (c.b == d.b) <;> simp_all
set_option maxHeartbeats 4000000 in
set_option maxRecDepth 100000 in
theorem RSame_any (x y : Nt) (v u : Value) (w : World) (hV : NetV w v x) (hU : NetV w u y) (hlw : x.way.length ≤ 10000000) (hlc : x.cuts.length ≤ 10000000) (hlt : x.timers.length ≤ 10000000) :
    Calls Tryz.prog 9 #[v, u] w fun e w' => e = .returned (.bool (decide (x = y))) ∧ Below w.heap.size w w' := by
  obtain ⟨AW, cW, AC, cC, AT, cT, rfl, hW, hC, hT⟩ := hV
  obtain ⟨AW2, cW2, AC2, cC2, AT2, cT2, rfl, hW2, hC2, hT2⟩ := hU
  have HW : Hid (∀ W, Below w.heap.size w W → Rd W AW x.way) := fun W hb => hW.below hb
  have HC : Hid (∀ W, Below w.heap.size w W → Rd W AC x.cuts) := fun W hb => hC.below hb
  have HT : Hid (∀ W, Below w.heap.size w W → Rd W AT x.timers) := fun W hb => hT.below hb
  have HW2 : Hid (∀ W, Below w.heap.size w W → Rd W AW2 y.way) := fun W hb => hW2.below hb
  have HC2 : Hid (∀ W, Below w.heap.size w W → Rd W AC2 y.cuts) := fun W hb => hC2.below hb
  have HT2 : Hid (∀ W, Below w.heap.size w W → Rd W AT2 y.timers) := fun W hb => hT2.below hb
  clear hW hC hT hW2 hC2 hT2
  go_enter Tryz.func9, Tryz.ntmps9
  go_wp2_with (first
    | (go_at_call 29; refine calls_below (RSameLetters_any _ _ _ _ x.way y.way _ (HW.out _ (below_alloc (below_alloc (Below.refl _ _) _) _)) (HW2.out _ (below_alloc (below_alloc (Below.refl _ _) _) _)) hlw) ?_; intro w1 hb1; have hb0 := below_trans (below_alloc (below_alloc (Below.refl w.heap.size w) _) _) hb1; obtain ⟨hc, -⟩ := bcell hb1)
    | (go_at_call 30; refine calls_below (RSameTimers_any _ _ _ _ x.timers y.timers _ (HT.out _ hb0) (HT2.out _ hb0) hlt) ?_; intro w2 hb2; replace hb0 := below_trans hb0 hb2; replace hb1 := below_trans hb1 hb2; clear hc; obtain ⟨hc, -⟩ := bcell hb1))
  · go_ret
    have hx := ‹((x.cuts.length : Int) != (y.cuts.length : Int)) = true›
    exact ⟨ret_bool (decide_eq_false (fun h => by subst h; simp at hx)).symm, hb0⟩
  rotate_left 1
  iterate 5
    · go_ret
      refine ⟨ret_bool (decide_eq_false (fun h => ?_)).symm, by first | exact hb0 | exact below_alloc (below_alloc (Below.refl _ _) _) _⟩
      first
        | exact ‹¬ x.timers = y.timers› (congrArg Nt.timers h)
        | exact ‹¬ x.way = y.way› (congrArg Nt.way h)
        | exact ‹¬ x.next = y.next› (congrArg Nt.next h)
        | exact ‹¬ x.now = y.now› (congrArg Nt.now h)
        | exact ‹¬ x.nodes = y.nodes› (congrArg Nt.nodes h)
  have hx := ‹((x.cuts.length : Int) != (y.cuts.length : Int)) = false›
  have HLE : Hid (x.cuts.length = y.cuts.length) := by rw [bne_eq_false_iff_eq] at hx; show _ = _; omega
  have HALL : Hid (x.cuts = y.cuts → x = y) := fun h => nt_eq (by assumption) (by assumption) (by assumption) (by assumption) h (by assumption)
  clear hx
  obtain ⟨w0, hw0⟩ : ∃ w0, w0 = w2 := ⟨_, rfl⟩
  have HB0 : Hid (Below w.heap.size w w0) := by rw [hw0]; exact hb0
  have HZ0 : Hid (w0.heap[w.heap.size]? = some (.cells #[.int .i64 y.nodes, .int .i64 y.now, .int .i64 y.next, .slice AW x.way.length cW, .slice AC x.cuts.length cC, .slice AT x.timers.length cT] 26 (0, 0))) := by rw [hw0]; exact bl_below (bl_alloc (bl_new _ _) _) hb1
  have HY0 : Hid (w0.heap[w.heap.size + 1]? = some (.cells #[.int .i64 y.nodes, .int .i64 y.now, .int .i64 y.next, .slice AW2 y.way.length cW2, .slice AC2 y.cuts.length cC2, .slice AT2 y.timers.length cT2] 26 (0, 0))) := by
    have h := bl_new (w.alloc (.cells #[.int .i64 y.nodes, .int .i64 y.now, .int .i64 y.next, .slice AW x.way.length cW, .slice AC x.cuts.length cC, .slice AT x.timers.length cT] 26)) (.cells #[.int .i64 y.nodes, .int .i64 y.now, .int .i64 y.next, .slice AW2 y.way.length cW2, .slice AC2 y.cuts.length cC2, .slice AT2 y.timers.length cT2] 26)
    rw [show (w.alloc (.cells #[.int .i64 y.nodes, .int .i64 y.now, .int .i64 y.next, .slice AW x.way.length cW, .slice AC x.cuts.length cC, .slice AT x.timers.length cT] 26)).heap.size = w.heap.size + 1 from by simp] at h
    rw [hw0]; exact bl_below h hb1
  clear hb0 hb1 hc
  rw [← hw0]
  clear hw0
  rename_i g1 g2 g3 g4 g5 g6 K0 A0
  clear g1 g2 g3 g4 g5 g6
  go_loopw [5] (fun i wr => ∃ k : Nat, k ≤ x.cuts.length ∧ i = .int .i64 k ∧ Hid (x.cuts.take k = y.cuts.take k) ∧ Hid (Below w0.heap.size w0 wr)) (fun i _ => x.cuts.length - (intOf i).toNat)
  case atStart => exact ⟨0, Nat.zero_le _, rfl, rfl, Below.refl _ _⟩
  case round =>
    obtain ⟨k, hk, rfl, ho, hB⟩ := hrel
    have hz := bl_below HZ0.out hB.out
    obtain ⟨⟨k0, k1, k2, k3, k4, k5⟩, -⟩ := blc6 hz
    have hlz := bl_lt hz
    have hy := bl_below HY0.out hB.out
    obtain ⟨⟨m0, m1, m2, m3, m4, m5⟩, -⟩ := blc6 hy
    have hly := bl_lt hy
    clear hz hy
    by_cases hlk : k < x.cuts.length
    · have hlk2 : k < y.cuts.length := by have := HLE.out; omega
      obtain ⟨b1, off1, c, rfl, hx, c0, c1⟩ := (HC.out _ (below_trans HB0.out hB.out)).lk k hlk
      obtain ⟨b2, off2, d, rfl, hy, d0, d1⟩ := (HC2.out _ (below_trans HB0.out hB.out)).lk k hlk2
      have hs := eq_step hx hy ho.out
      by_cases hcd : c = d
      · have hn := Lib.hid (hs.1 hcd)
        clear hs
        subst hcd
        go_wp2
        go_quiet (fail)
        go_wp2
        go_roundw
        case rel => exact ⟨k + 1, by omega, by go_num, hn.out, below_drewN hB.out _⟩
        case measure => simp [intOf]; omega
      · have hn := Lib.hid (hs.2 hcd)
        clear hs
        have hq := lk_ne hcd
        have hq1 := (lk_eq c d).trans (decide_eq_false hcd)
        clear hcd
        go_wp2
        go_quiet (fail)
        go_wp2
        go_ret
        exact ⟨ret_bool (decide_eq_false (fun h => hn.out (congrArg Nt.cuts h))).symm, below_drewN (below_trans HB0.out hB.out) _⟩
    · have hkl : k = x.cuts.length := by omega
      have he : x.cuts = y.cuts := by
        have h := ho.out
        rw [hkl, List.take_length, HLE.out, List.take_length] at h
        exact h
      have HE := Lib.hid (HALL.out he)
      clear he hkl
      go_wp2
      go_ret
      exact ⟨ret_bool (decide_eq_true HE.out).symm, below_trans HB0.out hB.out⟩

def smallB (x : Nt) : Bool := decide (x.way.length ≤ 250) && decide (x.cuts.length ≤ 200) && decide (x.timers.length ≤ 100) && x.way.all fun l => decide (l.data.size ≤ 300)
set_option maxHeartbeats 2000000 in
set_option maxRecDepth 100000 in
theorem small_any (x : Nt) (v : Value) (w : World) (hV : NetV w v x) (hlw : x.way.length ≤ 9223372036854775807) (hlc : x.cuts.length ≤ 9223372036854775807) (hlt : x.timers.length ≤ 9223372036854775807) :
    Calls Tryz.prog 5 #[v] w fun e w' => e = .returned (.bool (smallB x)) ∧ Below w.heap.size w w' := by
  obtain ⟨AW, cW, AC, cC, AT, cT, rfl, hW, hC, hT⟩ := hV
  have HW := Lib.hid hW
  clear hW hC hT
  go_enter Tryz.func5, Tryz.ntmps5
  go_wp2
  · go_ret
    exact ⟨ret_bool (by rw [eq_comm]; unfold smallB; have hx : ¬ x.timers.length ≤ 100 := by omega
                        rw [decide_eq_false hx]; simp), below_alloc (Below.refl _ _) _⟩
  rotate_left 1
  · go_ret
    exact ⟨ret_bool (by rw [eq_comm]; unfold smallB; have hx : ¬ x.cuts.length ≤ 200 := by omega
                        rw [decide_eq_false hx]; simp), below_alloc (Below.refl _ _) _⟩
  · go_ret
    exact ⟨ret_bool (by rw [eq_comm]; unfold smallB; have hx : ¬ x.way.length ≤ 250 := by omega
                        rw [decide_eq_false hx]; simp), below_alloc (Below.refl _ _) _⟩
  have hchk : Hid (smallB x = x.way.all fun l => decide (l.data.size ≤ 300)) := by
    show _ = _
    unfold smallB
    rw [decide_eq_true (show x.way.length ≤ 250 by omega), decide_eq_true (show x.cuts.length ≤ 200 by omega), decide_eq_true (show x.timers.length ≤ 100 by omega)]
    rfl
  obtain ⟨w0, hw0⟩ : ∃ w0, w0 = w.alloc (.cells #[.int .i64 x.nodes, .int .i64 x.now, .int .i64 x.next, .slice AW x.way.length cW, .slice AC x.cuts.length cC, .slice AT x.timers.length cT] 26) := ⟨_, rfl⟩
  have hb0 : Below w.heap.size w w0 := by rw [hw0]; exact below_alloc (Below.refl _ _) _
  have hz0 : w0.heap[w.heap.size]? = some (.cells #[.int .i64 x.nodes, .int .i64 x.now, .int .i64 x.next, .slice AW x.way.length cW, .slice AC x.cuts.length cC, .slice AT x.timers.length cT] 26 (0, 0)) := by rw [hw0]; exact bl_new _ _
  have HB0 := Lib.hid hb0
  have HZ0 := Lib.hid hz0
  have HW := Lib.hid (HW.out.below hb0)
  rw [← hw0]
  clear hb0 hz0 hw0
  go_loopw [3] (fun i wr => ∃ k : Nat, k ≤ x.way.length ∧ i = .int .i64 k ∧ Hid ((x.way.all fun l => decide (l.data.size ≤ 300)) = (x.way.drop k).all fun l => decide (l.data.size ≤ 300)) ∧ Hid (Below w0.heap.size w0 wr)) (fun i _ => x.way.length - (intOf i).toNat)
  case atStart => exact ⟨0, Nat.zero_le _, rfl, rfl, Below.refl _ _⟩
  case round =>
    obtain ⟨k, hk, rfl, ho, hB⟩ := hrel
    have hz := bl_below HZ0.out hB.out
    obtain ⟨⟨k0, k1, k2, k3, k4, k5⟩, -⟩ := blc6 hz
    have hlz := bl_lt hz
    by_cases hlk : k < x.way.length
    · obtain ⟨b, off, l, rfl, hx, c0, c1, c2, c3, c4⟩ := (HW.out.below hB.out).lt k hlk
      have hd : Hid (((x.way.drop k).all fun l => decide (l.data.size ≤ 300)) = (decide (l.data.size ≤ 300) && (x.way.drop (k + 1)).all fun l => decide (l.data.size ≤ 300))) := by
        show _ = _
        rw [drop_at hx, List.all_cons]
      go_wp2
      · go_ret
        exact ⟨ret_bool (by rw [hchk.out, ho.out, hd.out, decide_eq_false (by omega)]; rfl), below_trans HB0.out hB.out⟩
      · go_roundw
        case rel => exact ⟨k + 1, by omega, by go_num, by show _ = _; rw [ho.out, hd.out, decide_eq_true (by omega)]; rfl, hB.out⟩
        case measure => simp [intOf]; omega
    · have hyes : Hid (smallB x = true) := by show _ = _; rw [hchk.out, ho.out, List.drop_of_length_le (by omega)]; rfl
      go_wp2
      go_ret
      exact ⟨ret_bool hyes.out.symm, below_trans HB0.out hB.out⟩

def fewB (xs : List Ac) (n : Int) : Bool := (xs.all fun a => decide (a.data.size ≤ 300)) && decide ((xs.length : Int) ≤ n)
set_option maxHeartbeats 2000000 in
set_option maxRecDepth 100000 in
theorem few_any (A : Option Addr) (c : Nat) (xs : List Ac) (n : Int) (w : World) (hR : Rd w A xs) (hl : xs.length ≤ 9223372036854775807) :
    Calls Tryz.prog 18 #[.slice A xs.length c, .int .i64 n] w fun e w' => e = .returned (.bool (fewB xs n)) ∧ Below w.heap.size w w' := by
  have HR := Lib.hid hR
  clear hR
  go_enter Tryz.func18, Tryz.ntmps18
  go_wp2
  go_loopw [5] (fun i wr => ∃ k : Nat, k ≤ xs.length ∧ i = .int .i64 k ∧ Hid ((xs.all fun a => decide (a.data.size ≤ 300)) = (xs.drop k).all fun a => decide (a.data.size ≤ 300)) ∧ Hid (Below w.heap.size w wr)) (fun i _ => xs.length - (intOf i).toNat)
  case atStart => exact ⟨0, Nat.zero_le _, rfl, rfl, Below.refl _ _⟩
  case round =>
    obtain ⟨k, hk, rfl, ho, hB⟩ := hrel
    by_cases hlk : k < xs.length
    · obtain ⟨b, off, l, rfl, hx, c0, c1, c2, c3, c4⟩ := (HR.out.below hB.out).ac k hlk
      have hd : Hid (((xs.drop k).all fun a => decide (a.data.size ≤ 300)) = (decide (l.data.size ≤ 300) && (xs.drop (k + 1)).all fun a => decide (a.data.size ≤ 300))) := by
        show _ = _
        rw [drop_at hx, List.all_cons]
      go_wp2
      · go_ret
        exact ⟨ret_bool (by unfold fewB; rw [ho.out, hd.out, decide_eq_false (by omega)]; rfl), hB.out⟩
      · go_roundw
        case rel => exact ⟨k + 1, by omega, by go_num, by show _ = _; rw [ho.out, hd.out, decide_eq_true (by omega)]; rfl, hB.out⟩
        case measure => simp [intOf]; omega
    · have hyes : Hid ((xs.all fun a => decide (a.data.size ≤ 300)) = true) := by show _ = _; rw [ho.out, List.drop_of_length_le (by omega)]; rfl
      go_wp2
      go_ret
      exact ⟨ret_bool (by unfold fewB; rw [hyes.out, Bool.true_and]), hB.out⟩
end Go.Proofs.YthlbmcfliejdiaaGreat
end

section
set_option linter.unusedVariables false
set_option linter.unusedSimpArgs false
namespace Go.Proofs.YthlbmcfliejdiaaGreat
open Go.RowKit Go.ChangeShapes Go.WideShapes Go.Deep

section
variable {H : Type} {enc : TypeId × Value → H} {P : Program} {W : World} {base : Nat} {spare : Nat → Bool} {held : Bool}

theorem rd_open {α : Type} [Enc α] [Inhabited α] {t e : TypeId} {fuel : Nat} {cs : List Value} {x : DataW H × List MemPlace} (ht : P.underlying t = some (.slice e)) (hce : P.cellsOf e = Enc.sz α) (hpos : 0 < Enc.sz α)
    (hel : ∀ n cs' y, DataW.trod enc P W base spare held n e cs' = some y → ∃ z : α, cs' = Enc.enc z) (h : DataW.trod enc P W base spare held fuel t cs = some x) :
    ∃ (A : Option Addr) (xs : List α) (cap : Nat), cs = [.slice A xs.length cap] ∧ Rd W A xs ∧ xs.length ≤ maxLen := by
  rcases open_slice ht h with ⟨rfl, rfl⟩ | ⟨a, len, cap, m, n, D, Pl, rfl, hb, hl, hm, hmm, rfl, hx⟩
  · exact ⟨none, [], 0, rfl, Rd.nil _ _, Nat.zero_le _⟩
  have hlm : len ≤ m := by rw [hmm]; split <;> omega
  obtain ⟨f, hf⟩ := choose_lt (n := len) (p := fun i (z : α) => W.cells? base (a.add (i * P.cellsOf e)) (P.cellsOf e) = some (Enc.enc z)) (fun i hi => by
    obtain ⟨cs', h1, h2⟩ := hx i (by omega)
    obtain ⟨z, rfl⟩ := hel _ _ _ h2
    exact ⟨z, h1⟩)
  refine ⟨some a, (List.range len).map f, cap, by simp, ?_, by simp; omega⟩
  intro i hi
  have hi' : i < len := by simpa using hi
  obtain ⟨b, off, spot⟩ := a
  have hsp : spot = none := by
    obtain ⟨_, _, hc⟩ := World.cells?_some (hf 0 (by omega))
    have h0 := hc 0 (by omega)
    rw [List.getElem?_eq_getElem (by rw [Enc.len]; exact hpos)] at h0
    simpa [Addr.add] using World.cell?_spot h0
  subst hsp
  refine ⟨b, off, rfl, fun k v hk => ?_⟩
  have hxi : ((List.range len).map f)[i] = f i := by simp
  rw [hxi] at hk
  obtain ⟨_, _, hc⟩ := World.cells?_some (hf i hi')
  have hks : k < Enc.sz α := by
    have := (List.getElem?_eq_some_iff.1 hk).1
    rwa [Enc.len] at this
  have h1 := hc k (by omega)
  rw [hk, hce, add_add] at h1
  have h2 : (⟨b, off, none⟩ : Addr).add (i * Enc.sz α + k) = ⟨b, off + i * Enc.sz α + k, none⟩ := by
    rw [add_plain, Nat.add_assoc]
  rw [h2] at h1
  exact h1
end

section
variable {H : Type} {enc : TypeId × Value → H} {W : World} {base : Nat} {spare : Nat → Bool} {held : Bool}
theorem c_int : Tryz.prog.cellsOf 3 = 1 := by kernel_rfl
theorem c_str : Tryz.prog.cellsOf 9 = 1 := by kernel_rfl
instance : Inhabited Lt := ⟨zLt⟩
instance : Inhabited Lk := ⟨⟨0, 0⟩⟩
instance : Inhabited Tm := ⟨⟨0, 0, 0⟩⟩
set_option maxRecDepth 100000 in
theorem el_Lt (n : Nat) (cs : List Value) (y : DataW H × List MemPlace) (h : DataW.trod enc Tryz.prog W base spare held n 33 cs = some y) : ∃ z : Lt, cs = Enc.enc z := by
  obtain ⟨xs, k, rfl, _, hlen, hxl, hf⟩ := DataW.trod_struct Tryz.underlying33 h
  have hC : Tryz.prog.cellsOf 33 = 5 := by kernel_rfl
  rw [hC] at hlen
  match cs, hlen, xs, hxl with
  | [c0, c1, c2, c3, c4], _, [x0, x1, x2, x3, x4], _ =>
    have g0 : DataW.trod enc Tryz.prog W base spare held k 3 (([c0, c1, c2, c3, c4].drop 0).take (Tryz.prog.cellsOf 3)) = some x0 := hf 0 _ rfl
    have g1 : DataW.trod enc Tryz.prog W base spare held k 3 (([c0, c1, c2, c3, c4].drop 1).take (Tryz.prog.cellsOf 3)) = some x1 := hf 1 _ rfl
    have g2 : DataW.trod enc Tryz.prog W base spare held k 3 (([c0, c1, c2, c3, c4].drop 2).take (Tryz.prog.cellsOf 3)) = some x2 := hf 2 _ rfl
    have g3 : DataW.trod enc Tryz.prog W base spare held k 3 (([c0, c1, c2, c3, c4].drop 3).take (Tryz.prog.cellsOf 3)) = some x3 := hf 3 _ rfl
    have g4 : DataW.trod enc Tryz.prog W base spare held k 9 (([c0, c1, c2, c3, c4].drop 4).take (Tryz.prog.cellsOf 9)) = some x4 := hf 4 _ rfl
    rw [c_int] at g0 g1 g2 g3
    rw [c_str] at g4
    obtain ⟨n0, e0, -⟩ := DataW.trod_int Tryz.underlying3 g0
    obtain ⟨n1, e1, -⟩ := DataW.trod_int Tryz.underlying3 g1
    obtain ⟨n2, e2, -⟩ := DataW.trod_int Tryz.underlying3 g2
    obtain ⟨n3, e3, -⟩ := DataW.trod_int Tryz.underlying3 g3
    obtain ⟨s4, e4, -⟩ := DataW.trod_string Tryz.underlying9 g4
    simp at e0 e1 e2 e3 e4
    subst e0 e1 e2 e3 e4
    exact ⟨⟨n0, n1, n2, n3, s4⟩, rfl⟩
set_option maxRecDepth 100000 in
theorem el_Lk (n : Nat) (cs : List Value) (y : DataW H × List MemPlace) (h : DataW.trod enc Tryz.prog W base spare held n 96 cs = some y) : ∃ z : Lk, cs = Enc.enc z := by
  obtain ⟨xs, k, rfl, _, hlen, hxl, hf⟩ := DataW.trod_struct Tryz.underlying96 h
  have hC : Tryz.prog.cellsOf 96 = 2 := by kernel_rfl
  rw [hC] at hlen
  match cs, hlen, xs, hxl with
  | [c0, c1], _, [x0, x1], _ =>
    have g0 : DataW.trod enc Tryz.prog W base spare held k 3 (([c0, c1].drop 0).take (Tryz.prog.cellsOf 3)) = some x0 := hf 0 _ rfl
    have g1 : DataW.trod enc Tryz.prog W base spare held k 3 (([c0, c1].drop 1).take (Tryz.prog.cellsOf 3)) = some x1 := hf 1 _ rfl
    rw [c_int] at g0 g1
    obtain ⟨n0, e0, -⟩ := DataW.trod_int Tryz.underlying3 g0
    obtain ⟨n1, e1, -⟩ := DataW.trod_int Tryz.underlying3 g1
    simp at e0 e1
    subst e0 e1
    exact ⟨⟨n0, n1⟩, rfl⟩
set_option maxRecDepth 100000 in
theorem el_Tm (n : Nat) (cs : List Value) (y : DataW H × List MemPlace) (h : DataW.trod enc Tryz.prog W base spare held n 86 cs = some y) : ∃ z : Tm, cs = Enc.enc z := by
  obtain ⟨xs, k, rfl, _, hlen, hxl, hf⟩ := DataW.trod_struct Tryz.underlying86 h
  have hC : Tryz.prog.cellsOf 86 = 3 := by kernel_rfl
  rw [hC] at hlen
  match cs, hlen, xs, hxl with
  | [c0, c1, c2], _, [x0, x1, x2], _ =>
    have g0 : DataW.trod enc Tryz.prog W base spare held k 3 (([c0, c1, c2].drop 0).take (Tryz.prog.cellsOf 3)) = some x0 := hf 0 _ rfl
    have g1 : DataW.trod enc Tryz.prog W base spare held k 3 (([c0, c1, c2].drop 1).take (Tryz.prog.cellsOf 3)) = some x1 := hf 1 _ rfl
    have g2 : DataW.trod enc Tryz.prog W base spare held k 3 (([c0, c1, c2].drop 2).take (Tryz.prog.cellsOf 3)) = some x2 := hf 2 _ rfl
    rw [c_int] at g0 g1 g2
    obtain ⟨n0, e0, -⟩ := DataW.trod_int Tryz.underlying3 g0
    obtain ⟨n1, e1, -⟩ := DataW.trod_int Tryz.underlying3 g1
    obtain ⟨n2, e2, -⟩ := DataW.trod_int Tryz.underlying3 g2
    simp at e0 e1 e2
    subst e0 e1 e2
    exact ⟨⟨n0, n1, n2⟩, rfl⟩
end
end Go.Proofs.YthlbmcfliejdiaaGreat
end

section
set_option linter.unusedVariables false
set_option linter.unusedSimpArgs false
namespace Go.Proofs.YthlbmcfliejdiaaGreat
open Go.RowKit Go.ChangeShapes Go.WideShapes Go.Deep

section
variable {H : Type} {enc : TypeId × Value → H} {W : World} {base : Nat} {spare : Nat → Bool} {held : Bool}
instance : Inhabited Ac := ⟨zAc⟩
set_option maxRecDepth 100000 in
theorem el_Ac (n : Nat) (cs : List Value) (y : DataW H × List MemPlace) (h : DataW.trod enc Tryz.prog W base spare held n 50 cs = some y) : ∃ z : Ac, cs = Enc.enc z := by
  obtain ⟨xs, k, rfl, _, hlen, hxl, hf⟩ := DataW.trod_struct Tryz.underlying50 h
  have hC : Tryz.prog.cellsOf 50 = 5 := by kernel_rfl
  rw [hC] at hlen
  match cs, hlen, xs, hxl with
  | [c0, c1, c2, c3, c4], _, [x0, x1, x2, x3, x4], _ =>
    have g0 : DataW.trod enc Tryz.prog W base spare held k 3 (([c0, c1, c2, c3, c4].drop 0).take (Tryz.prog.cellsOf 3)) = some x0 := hf 0 _ rfl
    have g1 : DataW.trod enc Tryz.prog W base spare held k 3 (([c0, c1, c2, c3, c4].drop 1).take (Tryz.prog.cellsOf 3)) = some x1 := hf 1 _ rfl
    have g2 : DataW.trod enc Tryz.prog W base spare held k 3 (([c0, c1, c2, c3, c4].drop 2).take (Tryz.prog.cellsOf 3)) = some x2 := hf 2 _ rfl
    have g3 : DataW.trod enc Tryz.prog W base spare held k 3 (([c0, c1, c2, c3, c4].drop 3).take (Tryz.prog.cellsOf 3)) = some x3 := hf 3 _ rfl
    have g4 : DataW.trod enc Tryz.prog W base spare held k 9 (([c0, c1, c2, c3, c4].drop 4).take (Tryz.prog.cellsOf 9)) = some x4 := hf 4 _ rfl
    rw [c_int] at g0 g1 g2 g3
    rw [c_str] at g4
    obtain ⟨n0, e0, -⟩ := DataW.trod_int Tryz.underlying3 g0
    obtain ⟨n1, e1, -⟩ := DataW.trod_int Tryz.underlying3 g1
    obtain ⟨n2, e2, -⟩ := DataW.trod_int Tryz.underlying3 g2
    obtain ⟨n3, e3, -⟩ := DataW.trod_int Tryz.underlying3 g3
    obtain ⟨s4, e4, -⟩ := DataW.trod_string Tryz.underlying9 g4
    simp at e0 e1 e2 e3 e4
    subst e0 e1 e2 e3 e4
    exact ⟨⟨n0, n1, n2, n3, s4⟩, rfl⟩
end
end Go.Proofs.YthlbmcfliejdiaaGreat
end

section
set_option linter.unusedVariables false
set_option linter.unusedSimpArgs false
namespace Go.Proofs.YthlbmcfliejdiaaGreat
open Go.RowKit

theorem Rd.int {w : World} {A : Option Addr} {xs : List Int} (h : Rd w A xs) (i : Nat) (hi : i < xs.length) :
    ∃ b off x, A = some ⟨b, off, none⟩ ∧ Hid (xs[i]? = some x) ∧ w.cell? ⟨b, off + i, none⟩ = some (.int .i64 x) := by
  obtain ⟨b, off, x, e, hx, hc⟩ := h.any i hi
  refine ⟨b, off, x, e, hx, ?_⟩
  have := hc 0 _ rfl
  simpa [Enc.sz] using this
theorem small_lens {x : Nt} (h : smallB x = true) : x.way.length ≤ 250 ∧ x.cuts.length ≤ 200 ∧ x.timers.length ≤ 100 := by
  unfold smallB at h
  simp only [Bool.and_eq_true, decide_eq_true_eq] at h
  exact ⟨h.1.1.1, h.1.1.2, h.1.2⟩
theorem bl_newS {w : World} {o : Obj} {n : Nat} (h : w.heap.size = n) : (w.alloc o).heap[n]? = some o := h ▸ bl_new w o
theorem NetO.v {w : World} {B : Nat} {v : Value} {x : Nt} (h : NetO w B v x) : NetV w v x := by
  obtain ⟨AW, cW, AC, cC, AT, cT, rfl, h1, h2, h3⟩ := h
  exact ⟨AW, cW, AC, cC, AT, cT, rfl, h1.rd, h2.rd, h3.rd⟩
theorem lens_do {x : Nt} (a : Ac) (h : x.way.length ≤ 300) (h2 : x.cuts.length ≤ 300) (h3 : x.timers.length ≤ 300) : (doXR x a).way.length ≤ 300 ∧ (doXR x a).cuts.length ≤ 300 ∧ (doXR x a).timers.length ≤ 300 := by
  unfold doXR
  split
  · exact ⟨Nat.zero_le _, Nat.zero_le _, Nat.zero_le _⟩
  · rename_i hc
    have hk := do_keeps ((ok_iff x).1 (by simpa using hc)) a
    have q1 := hk.way
    have q2 := hk.cuts256
    have q3 := hk.tms
    omega
theorem bl_new2 (w : World) (o1 o2 : Obj) : ((w.alloc o1).alloc o2).heap[w.heap.size + 1]? = some o2 := by
  have h := bl_new (w.alloc o1) o2
  rwa [World.size_alloc] at h
theorem keepC {W w' : World} (h : Below W.heap.size W w') : (∀ (b o : Nat), b < W.heap.size → w'.cell? ⟨b, o, none⟩ = W.cell? ⟨b, o, none⟩) ∧ Below W.heap.size W w' := ⟨(bcell h).1, h⟩
theorem keepR {p q : Prop} (h : p ∧ q) : q := h.2
theorem len_ok {x : Nt} (h : Ok x) : x.way.length ≤ 300 ∧ x.cuts.length ≤ 300 ∧ x.timers.length ≤ 300 := by
  have q1 := h.way
  have q2 := h.cuts256
  have q3 := h.tms
  omega
end Go.Proofs.YthlbmcfliejdiaaGreat
end
