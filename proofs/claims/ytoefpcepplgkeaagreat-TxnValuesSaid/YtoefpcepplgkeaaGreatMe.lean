/- The machine's steps, for any frame. Activations, abstract and true. The machine's steps outside regions that draw. Code, and what is left of an activation. Code, and what is left of an activation. Code: each of its forms. Regions in order, rounds, and the end of an activation. The end of an activation: deferred calls, panics, results. -/
import Derived.Test.YtoefpcepplgkeaaGreatMd
section
set_option linter.unusedVariables false
set_option linter.unusedSimpArgs false
namespace Go.Ev
open Go Go.RowKit
section
variable {P : Program}
theorem st_go {fr fr' : Frame} {cs cs' : List Frame} {w w' : World}
    (h : (stepG P true { frame := fr, callers := cs, status := .running, dying := none } w).bare = .go { frame := fr', callers := cs', status := .running, dying := none } w') : Steps P (lone fr cs w) (lone fr' cs' w') := .one (step_lone_go h)
variable {fn : FuncId} {tmps : Array Value} {defers : List Deferred} {kind : CallKind} {ro : Option Nat} {cs : List Frame} {w : World} {k : List Item}
theorem m_skip : Steps P (lone ⟨fn, tmps, .code .skip :: k, defers, .run, kind, ro⟩ cs w) (lone ⟨fn, tmps, k, defers, .run, kind, ro⟩ cs w) := st_go (by simp [stepG, stepG.exec])
theorem m_label {l : Nat} : Steps P (lone ⟨fn, tmps, .code (.label l) :: k, defers, .run, kind, ro⟩ cs w) (lone ⟨fn, tmps, k, defers, .run, kind, ro⟩ cs w) := st_go (by simp [stepG, stepG.exec])
theorem m_inBlock {l : Nat} : Steps P (lone ⟨fn, tmps, .inBlock l :: k, defers, .run, kind, ro⟩ cs w) (lone ⟨fn, tmps, k, defers, .run, kind, ro⟩ cs w) := st_go (by simp [stepG, stepG.exec])
theorem m_inScope {c : Code} : Steps P (lone ⟨fn, tmps, .inScope c :: k, defers, .run, kind, ro⟩ cs w) (lone ⟨fn, tmps, k, defers, .run, kind, ro⟩ cs w) := st_go (by simp [stepG, stepG.exec])
theorem m_seq {x y : Code} : Steps P (lone ⟨fn, tmps, .code (.seq x y) :: k, defers, .run, kind, ro⟩ cs w) (lone ⟨fn, tmps, .code x :: .code y :: k, defers, .run, kind, ro⟩ cs w) := st_go (by simp [stepG, stepG.exec])
theorem m_cond {c : Operand} {x y : Code} {t : Bool} (h : Frame.eval ⟨fn, tmps, .code (.cond c x y) :: k, defers, .run, kind, ro⟩ c = .bool t) :
    Steps P (lone ⟨fn, tmps, .code (.cond c x y) :: k, defers, .run, kind, ro⟩ cs w) (lone ⟨fn, tmps, .code (if t then x else y) :: k, defers, .run, kind, ro⟩ cs w) := st_go (by simp [stepG, stepG.exec, h])
theorem m_block {l : Nat} {c : Code} : Steps P (lone ⟨fn, tmps, .code (.block l c) :: k, defers, .run, kind, ro⟩ cs w) (lone ⟨fn, tmps, .code c :: .inBlock l :: k, defers, .run, kind, ro⟩ cs w) := st_go (by simp [stepG, stepG.exec])
theorem m_loop {c : Code} : Steps P (lone ⟨fn, tmps, .code (.loop c) :: k, defers, .run, kind, ro⟩ cs w) (lone ⟨fn, tmps, .code c :: .inLoop c :: k, defers, .run, kind, ro⟩ cs w) := st_go (by simp [stepG, stepG.exec])
theorem m_inLoop {c : Code} : Steps P (lone ⟨fn, tmps, .inLoop c :: k, defers, .run, kind, ro⟩ cs w) (lone ⟨fn, tmps, .code c :: .inLoop c :: k, defers, .run, kind, ro⟩ cs w) := st_go (by simp [stepG, stepG.exec])
theorem m_scope {c : Code} : Steps P (lone ⟨fn, tmps, .code (.scope c) :: k, defers, .run, kind, ro⟩ cs w) (lone ⟨fn, tmps, .code c :: .inScope c :: k, defers, .run, kind, ro⟩ cs w) := st_go (by simp [stepG, stepG.exec])
theorem m_exit {l : Nat} {k' : List Item} (h : exitTo l k = some k') : Steps P (lone ⟨fn, tmps, .code (.exit l) :: k, defers, .run, kind, ro⟩ cs w) (lone ⟨fn, tmps, k', defers, .run, kind, ro⟩ cs w) := st_go (by simp [stepG, stepG.exec, h])
theorem m_region {id : Nat} {ops : Array Oper} : Steps P (lone ⟨fn, tmps, .code (.region id ops false) :: k, defers, .run, kind, ro⟩ cs w) (lone ⟨fn, tmps, .inRegion ops (List.range ops.size) :: k, defers, .run, kind, ro⟩ cs w) := st_go (by simp [stepG, stepG.exec])
theorem m_regionEnd {ops : Array Oper} : Steps P (lone ⟨fn, tmps, .inRegion ops [] :: k, defers, .run, kind, ro⟩ cs w) (lone ⟨fn, tmps, k, defers, .run, kind, ro⟩ cs w) := st_go (by simp [stepG, stepG.exec])
theorem m_regionDraw {id : Nat} {ops : Array Oper} : ∃ t, Steps P (lone ⟨fn, tmps, .code (.region id ops true) :: k, defers, .run, kind, ro⟩ cs w)
    (lone ⟨fn, tmps, .inRegion ops (Region.schedule (P.follows .mixedOrders) ops t) :: k, defers, .run, kind, ro⟩ cs { w with drawn := w.drawn + 1 }) :=
  ⟨w.tape w.drawn (.order fn id), st_go (by simp [stepG, stepG.exec, choose, Sem.run, Question.forced, Question.cut])⟩
theorem m_end : Steps P (lone ⟨fn, tmps, [], defers, .run, kind, none⟩ cs w) (lone ⟨fn, tmps, [], defers, .returning, kind, none⟩ cs w) := st_go (by simp [stepG, stepG.exec])
theorem m_ret : Steps P (lone ⟨fn, tmps, .code .ret :: k, defers, .run, kind, none⟩ cs w) (lone ⟨fn, tmps, .code .ret :: k, defers, .returning, kind, none⟩ cs w) := st_go (by simp [stepG, stepG.exec])
/-- An operation that is not wanted. -/
theorem m_skipOp {ops : Array Oper} {i : Nat} {rest : List Nat} {o : Oper} (ho : ops[i]? = some o) (hw : Region.wanted o (yielded ops tmps) = false) :
    Steps P (lone ⟨fn, tmps, .inRegion ops (i :: rest) :: k, defers, .run, kind, ro⟩ cs w) (lone (Frame.finish ⟨fn, tmps, .inRegion ops (i :: rest) :: k, defers, .run, kind, ro⟩ undef) cs w) :=
  st_go (by simp [stepG, stepG.exec, ho, hw])
theorem stepG_reg {ops : Array Oper} {i : Nat} {rest : List Nat} {o : Oper} (ho : ops[i]? = some o) (hw : Region.wanted o (yielded ops tmps) = true) (hd : ro = none ∨ ∀ c, o.op ≠ .defer c) :
    stepG P true { frame := ⟨fn, tmps, .inRegion ops (i :: rest) :: k, defers, .run, kind, ro⟩, callers := cs, status := .running, dying := none } w =
      stepG.apply P true ⟨fn, tmps, .inRegion ops (i :: rest) :: k, defers, .run, kind, ro⟩ cs none (execOp (Frame.eval ⟨fn, tmps, .inRegion ops (i :: rest) :: k, defers, .run, kind, ro⟩) o) w := by
  rcases hd with rfl | hd
  · simp [stepG, stepG.exec, stepG.oper, Frame.oper?, ho, hw]
  · cases ro with
    | none => simp [stepG, stepG.exec, stepG.oper, Frame.oper?, ho, hw]
    | some l =>
      simp only [stepG, stepG.exec, ho, Option.map_some, Option.getD_some, hw, if_true, stepG.oper, Frame.oper?]
      split
      · rename_i c hc
        rename_i heq _
        exact absurd (by assumption) (hd _)
      · rfl
variable {fr : Frame} {s : Sem Next}
theorem ap_value {v : Value} {w' : World} (h : s.run P w = .ok (.value v) w') : (stepG.apply P true fr cs none s w).bare = .go { frame := fr.finish v, callers := cs, status := .running, dying := none } w' := by simp [stepG.apply, h]
theorem ap_skip {w' : World} (h : s.run P w = .ok .skip w') : (stepG.apply P true fr cs none s w).bare = .go { frame := fr.finish undef, callers := cs, status := .running, dying := none } w' := by simp [stepG.apply, h]
theorem ap_enter {g : FuncId} {args : Array Value} {w' : World} (h : s.run P w = .ok (.enter g args) w') (ht : ∀ d x y z k, fr.todo ≠ .call d x y z :: k) :
    (stepG.apply P true fr cs none s w).bare = .go { frame := Frame.enter P g args .normal, callers := fr :: cs, status := .running, dying := none } w' := by
  have hk : (match fr.todo with | .call _ true _ _ :: _ => CallKind.wrapped | _ => .normal) = .normal := by
    split
    · rename_i hh; exact absurd hh (ht _ _ _ _ _)
    · rfl
  simp [stepG.apply, h]
  split
  · rename_i hh; exact absurd hh (ht _ _ _ _ _)
  · rfl
theorem ap_round {l : Nat} {g : FuncId} {tm : Array Value} {asg bd : Code} {w' : World} (h : s.run P w = .ok (.round l g tm asg bd) w') :
    (stepG.apply P true fr cs none s w).bare = .go { frame := Frame.round l g tm asg bd .normal, callers := fr :: cs, status := .running, dying := none } w' := by simp [stepG.apply, h]
theorem ap_defer {d : Deferred} {w' : World} (h : s.run P w = .ok (.defer d) w') :
    (stepG.apply P true fr cs none s w).bare = .go { frame := ({ fr with defers := d :: fr.defers } : Frame).finish undef, callers := cs, status := .running, dying := none } w' := by simp [stepG.apply, h]
theorem ap_panic {v : Value} {w' : World} (h : s.run P w = .halt (.panic v) w') : (stepG.apply P true fr cs none s w).bare = .go { frame := fr.raise [{ v, recovered := false }], callers := cs, status := .running, dying := none } w' := by simp [stepG.apply, h]
theorem ap_recover {w' : World} (h : s.run P w = .ok .recover w') (hr : fr.roundOf = none) :
    (stepG.apply P true fr cs none s w).bare = match tryRecover fr cs with
      | some (v, callers) => .go { frame := fr.finish v, callers, status := .running, dying := none } w'
      | none => .go { frame := fr.finish .nilIface, callers := cs, status := .running, dying := none } w' := by
  simp [stepG.apply, h, hr]
  cases tryRecover fr cs <;> rfl
end
end Go.Ev
end

section
set_option linter.unusedVariables false
set_option linter.unusedSimpArgs false
namespace Go.Ev
open Go Go.RowKit
/-- What is to be done (outside regions that draw). -/
inductive TL (ρ : Rho) : List AI → List Item → Prop
  | nil : TL ρ [] []
  | code (c : Code) {k : List AI} {k' : List Item} (h : TL ρ k k') : TL ρ (.code c :: k) (.code c :: k')
  | inBlock (l : Nat) {k : List AI} {k' : List Item} (h : TL ρ k k') : TL ρ (.inBlock l :: k) (.inBlock l :: k')
  | inLoop (c : Code) {k : List AI} {k' : List Item} (h : TL ρ k k') : TL ρ (.inLoop c :: k) (.inLoop c :: k')
  | inScope (c : Code) {k : List AI} {k' : List Item} (h : TL ρ k k') : TL ρ (.inScope c :: k) (.inScope c :: k')
  | reg (ops : Array Oper) (i : Nat) {r : List Oper} {k : List AI} {k' : List Item} (h : TL ρ k k') (hr : r = ops.toList.drop i) : TL ρ (.reg ops i r :: k) (.inRegion ops (List.range' i r.length) :: k')
  | inRange {l : Nat} {L : Loc} {k : List AI} {k' : List Item} (h : TL ρ k k') (hl : ρ l = some L) : TL ρ (.inRange l :: k) (.inRangeFunc L.b :: k')
  | endRange {l : Nat} {L : Loc} {k : List AI} {k' : List Item} (h : TL ρ k k') (hl : ρ l = some L) : TL ρ (.endRange l :: k) (.endRangeFunc L.b :: k')
  | begin {k : List AI} {k' : List Item} (h : TL ρ k k') : TL ρ (.begin :: k) (.beginRound :: k')
theorem TL.mono {ρ ρ' : Rho} (e : Ext ρ ρ') {k : List AI} {k' : List Item} (h : TL ρ k k') : TL ρ' k k' := by
  induction h with
  | nil => exact .nil
  | code c h ih => exact .code c ih
  | inBlock l h ih => exact .inBlock l ih
  | inLoop c h ih => exact .inLoop c ih
  | inScope c h ih => exact .inScope c ih
  | reg ops i h hr ih => exact .reg ops i ih hr
  | inRange h hl ih => exact .inRange ih (e _ _ hl)
  | endRange h hl ih => exact .endRange ih (e _ _ hl)
  | begin h ih => exact .begin ih
inductive ChR (ρ : Rho) : List PanicEntry → List PanicEntry → Prop
  | nil : ChR ρ [] []
  | cons {v v' : Value} (r : Bool) {l l' : List PanicEntry} (h : V ρ v v') (t : ChR ρ l l') : ChR ρ (⟨v, r, false⟩ :: l) (⟨v', r, false⟩ :: l')
theorem ChR.mono {ρ ρ' : Rho} (e : Ext ρ ρ') {k k' : List PanicEntry} (h : ChR ρ k k') : ChR ρ' k k' := by
  induction h with
  | nil => exact .nil
  | cons r h t ih => exact .cons r (h.mono e) ih
theorem ChR.append {ρ : Rho} {a a' c c' : List PanicEntry} (h : ChR ρ a a') (g : ChR ρ c c') : ChR ρ (a ++ c) (a' ++ c') := by
  induction h with
  | nil => exact g
  | cons r h t ih => exact .cons r h ih
inductive MdR (ρ : Rho) : FrameMode → FrameMode → Prop
  | run : MdR ρ .run .run
  | returning : MdR ρ .returning .returning
  | panicking {c c' : List PanicEntry} (h : ChR ρ c c') : MdR ρ (.panicking c) (.panicking c')
theorem MdR.mono {ρ ρ' : Rho} (e : Ext ρ ρ') {k k' : FrameMode} (h : MdR ρ k k') : MdR ρ' k k' := by
  cases h with
  | run => exact .run
  | returning => exact .returning
  | panicking h => exact .panicking (h.mono e)
inductive RoR (ρ : Rho) : Option Nat → Option Nat → Prop
  | none : RoR ρ none none
  | some {l : Nat} {L : Loc} (h : ρ l = some L) : RoR ρ (some l) (some L.b)
theorem RoR.mono {ρ ρ' : Rho} (e : Ext ρ ρ') {k k' : Option Nat} (h : RoR ρ k k') : RoR ρ' k k' := by
  cases h with
  | none => exact .none
  | some h => exact .some (e _ _ h)
/-- The variables that an operation that may lag writes. -/
def Lg (ops : Array Oper) (done : Nat) (rest : List Nat) (t : Tmp) : Prop := ∃ i o, i ∈ rest ∧ done.testBit i = true ∧ ops[i]? = some o ∧ o.dst = some t
/-- The variables, but for some. -/
def TM (ρ : Rho) (lag : Tmp → Prop) (f : AF) (fr : Frame) : Prop := ∀ t v, ¬ lag t → f.tmps.get t = some v → ∃ v', fr.tmps[t]? = some v' ∧ V ρ v v'
/-- The rest of an order of a region: each operation behind its edges, each once. -/
inductive Ord (ops : Array Oper) : List Nat → Prop
  | nil : Ord ops []
  | cons {i : Nat} {o : Oper} {r : List Nat} (ho : ops[i]? = some o) (he : ∀ e ∈ o.after.toList, Region.binds .any e = true → e.on ∉ i :: r) (hn : i ∉ r) (t : Ord ops r) : Ord ops (i :: r)
/-- The block of a row that has just been laid. -/
def blkOf : Value → Option Nat
  | .pointer (some a) => some a.block
  | .slice (some a) _ _ => some a.block
  | _ => none
def isLay (b : Tb) (o : Oper) : Prop := ∃ l, clsOf b o.op = .lay l
structure DG (b : Tb) (ρ : Rho) (lo hi : Nat) (f : AF) (ops : Array Oper) (done : Nat) (lag : List Nat) (rest : List Nat) : Prop where
  reg : regOk b ops = true
  ord : Ord ops rest
  todo : ∀ i, i < ops.size → done.testBit i = false → i ∈ rest
  lagm : ∀ i ∈ rest, done.testBit i = true → i ∈ lag
  flt : ∀ i ∈ rest, done.testBit i = true → ∀ o, ops[i]? = some o → isFloat b o = true
  unb : ∀ i ∈ rest, done.testBit i = true → ∀ o, ops[i]? = some o → isLay b o → ∀ d, o.dst = some d → d < f.nt → ∀ r, blkOf (f.tmp d) = some r → lo ≤ r ∧ r < hi ∧ ρ r = none
  dis : ∀ i ∈ rest, done.testBit i = true → ∀ j ∈ rest, done.testBit j = true → i ≠ j → ∀ o p, ops[i]? = some o → ops[j]? = some p → isLay b o → isLay b p → ∀ d e, o.dst = some d → p.dst = some e → d < f.nt → e < f.nt → ∀ r, blkOf (f.tmp d) = some r → blkOf (f.tmp e) = some r → False
  clo : ∀ i o, ops[i]? = some o → i ∉ rest → ∀ e ∈ o.after.toList, Region.binds .any e = true → e.on ∉ rest
inductive TD (b : Tb) (ρ : Rho) (lo hi : Nat) (f : AF) (fr : Frame) : Prop
  | plain (h : TL ρ f.todo fr.todo) (t : TM ρ (fun _ => False) f fr)
  | dreg {ops : Array Oper} {done : Nat} {lag : List Nat} {k : List AI} {k' : List Item} {rest : List Nat} (h : f.todo = .dreg ops done lag none :: k) (h' : fr.todo = .inRegion ops rest :: k') (hk : TL ρ k k')
      (hd : DG b ρ lo hi f ops done lag rest) (t : TM ρ (Lg ops done rest) f fr)
  | dnow {ops : Array Oper} {done : Nat} {lag : List Nat} {k : List AI} {k' : List Item} {rest : List Nat} {i : Nat} {o : Oper} (h : f.todo = .dreg ops done lag (some (i, o)) :: k) (h' : fr.todo = .inRegion ops (i :: rest) :: k') (hk : TL ρ k k')
      (ho : ops[i]? = some o) (hni : i ∉ rest) (hd : DG b ρ lo hi f ops done lag rest) (t : TM ρ (Lg ops done rest) f fr)
structure FR (b : Tb) (ρ : Rho) (lo hi : Nat) (f : AF) (fr : Frame) : Prop where
  fn : fr.fn = f.id
  kind : fr.kind = f.kind
  kd : f.kind = .normal ∨ f.kind = .deferred
  dfs : DL ρ f.defers fr.defers
  mode : MdR ρ f.mode fr.mode
  round : RoR ρ f.round fr.roundOf
  size : fr.tmps.size = f.nt
  gl : f.gl = b.gl
  res : f.round = none → ∃ fn, b.P.funcs[f.id]? = some fn ∧ fn.results.toList = f.res
  todo : TD b ρ lo hi f fr
theorem TM.mono {ρ ρ' : Rho} (e : Ext ρ ρ') {lag : Tmp → Prop} {f : AF} {fr : Frame} (h : TM ρ lag f fr) : TM ρ' lag f fr := fun t v hl hv => let ⟨v', h1, h2⟩ := h t v hl hv; ⟨v', h1, h2.mono e⟩
theorem DG.mono {b : Tb} {ρ ρ' : Rho} {lo hi hi' : Nat} (e : ExtN ρ ρ' hi) (hh : hi ≤ hi') {f : AF} {ops : Array Oper} {done : Nat} {lag rest : List Nat} (h : DG b ρ lo hi f ops done lag rest) : DG b ρ' lo hi' f ops done lag rest :=
  { h with unb := fun i hi hd o ho hl d hdd hn r hr => let ⟨h1, h2, h3⟩ := h.unb i hi hd o ho hl d hdd hn r hr; ⟨h1, by omega, e.2 r h2 h3⟩ }
theorem TD.mono {b : Tb} {ρ ρ' : Rho} {lo hi hi' : Nat} (e : ExtN ρ ρ' hi) (hh : hi ≤ hi') {f : AF} {fr : Frame} (h : TD b ρ lo hi f fr) : TD b ρ' lo hi' f fr := by
  cases h with
  | plain h t => exact .plain (h.mono e.1) (t.mono e.1)
  | dreg h h' hk hd t => exact .dreg h h' (hk.mono e.1) (hd.mono e hh) (t.mono e.1)
  | dnow h h' hk ho hni hd t => exact .dnow h h' (hk.mono e.1) ho hni (hd.mono e hh) (t.mono e.1)
theorem FR.mono {b : Tb} {ρ ρ' : Rho} {lo hi hi' : Nat} (e : ExtN ρ ρ' hi) (hh : hi ≤ hi') {f : AF} {fr : Frame} (h : FR b ρ lo hi f fr) : FR b ρ' lo hi' f fr :=
  ⟨h.fn, h.kind, h.kd, h.dfs.mono e.1, h.mode.mono e.1, h.round.mono e.1, h.size, h.gl, h.res, h.todo.mono e hh⟩
/-- An activation that waits for an operation's end. -/
inductive Sus : AF → Prop
  | reg {f : AF} {ops : Array Oper} {i : Nat} {o : Oper} {r : List Oper} {k : List AI} (h : f.todo = .reg ops i (o :: r) :: k) : Sus f
  | dnow {f : AF} {ops : Array Oper} {d : Nat} {l : List Nat} {i : Nat} {o : Oper} {k : List AI} (h : f.todo = .dreg ops d l (some (i, o)) :: k) : Sus f
  | range {f : AF} {l : Nat} {k : List AI} (h : f.todo = .inRange l :: k) : Sus f
/-- The callers. -/
inductive Stack (b : Tb) (ρ : Rho) (base : List Frame) : Nat → CallKind → List AF → List Frame → Prop
  | nil (hi : Nat) : Stack b ρ base hi .normal [] base
  | cons {lo hi : Nat} {kd : CallKind} {c : AF} {c' : Frame} {cs : List AF} {cs' : List Frame} (hl : lo ≤ hi) (h : FR b ρ lo hi c c') (hs : kd = .normal → Sus c ∧ c.mode = .run) (t : Stack b ρ base lo c.kind cs cs') : Stack b ρ base hi kd (c :: cs) (c' :: cs')
theorem Stack.mono {b : Tb} {ρ ρ' : Rho} {base : List Frame} {hi : Nat} {kd : CallKind} {cs : List AF} {cs' : List Frame} (e : ExtN ρ ρ' hi) (h : Stack b ρ base hi kd cs cs') : Stack b ρ' base hi kd cs cs' := by
  induction h with
  | nil hi => exact .nil hi
  | cons hl h hs t ih => exact .cons hl (h.mono e (Nat.le_refl _)) hs (ih (e.mono hl))
/-- Variables of the package that are known. -/
def GlOk (b : Tb) (ρ : Rho) : Prop := ∀ g, b.gl.testBit g = true → ∃ L, ρ g = some L ∧ L.b = g ∧ L.d = 0
theorem GlOk.mono {b : Tb} {ρ ρ' : Rho} (e : Ext ρ ρ') (h : GlOk b ρ) : GlOk b ρ' := fun g hg => let ⟨L, h1, h2⟩ := h g hg; ⟨L, e _ _ h1, h2⟩
section
variable {b : Tb} {ρ : Rho}
theorem TM.tmp {lag : Tmp → Prop} {f : AF} {fr : Frame} (h : TM ρ lag f fr) {t : Tmp} (hl : ¬ lag t) : V ρ (f.tmp t) (fr.tmps.getD t undef) := by
  unfold AF.tmp
  cases hv : f.tmps.get t with
  | none => exact .junk _
  | some v =>
    obtain ⟨v', h1, h2⟩ := h t v hl hv
    simp [Array.getD_eq_getD_getElem?, h1]
    exact h2
theorem TM.eval {lag : Tmp → Prop} {f : AF} {fr : Frame} (h : TM ρ lag f fr) (hg : GlOk b ρ) (hgl : f.gl = b.gl) {x : Operand} (hl : ∀ t, x = .tmp t → ¬ lag t) : V ρ (f.eval x) (fr.eval x) := by
  cases x with
  | tmp t => exact h.tmp (hl t rfl)
  | const v =>
    simp only [AF.eval, Frame.eval]
    split
    · rename_i h1; exact V.of_flat1 ρ h1
    · split
      · rename_i h1; exact V.of_flat ρ h1
      · exact .junk _
  | global g =>
    simp only [AF.eval, Frame.eval]
    split
    · rename_i h1
      rw [hgl] at h1
      obtain ⟨L, h2, h3, h4⟩ := hg g h1
      exact .ptr h2 rfl (by simp [h3, h4])
    · exact .junk _
  | func f => exact V.func_mk f .nil .nil
/-- A variable is written. -/
theorem put_tmps (f : AF) (d : Option Tmp) (v : Value) : (f.put d v).id = f.id ∧ (f.put d v).nt = f.nt ∧ (f.put d v).res = f.res ∧ (f.put d v).defers = f.defers ∧ (f.put d v).mode = f.mode ∧ (f.put d v).kind = f.kind ∧ (f.put d v).round = f.round ∧ (f.put d v).gl = f.gl ∧ (f.put d v).todo = f.todo := by
  unfold AF.put
  split
  · split <;> exact ⟨rfl, rfl, rfl, rfl, rfl, rfl, rfl, rfl, rfl⟩
  · exact ⟨rfl, rfl, rfl, rfl, rfl, rfl, rfl, rfl, rfl⟩
theorem put_get (f : AF) (d : Option Tmp) (v : Value) (t : Tmp) : (f.put d v).tmps.get t = if d = some t ∧ t < f.nt then some v else f.tmps.get t := by
  unfold AF.put
  split
  · rename_i d
    split
    · rename_i h
      have := blt_t h
      show (f.tmps.set v d).get t = _
      rw [T.get_set]
      by_cases hd : t = d
      · subst hd; simp [this]
      · have : d ≠ t := fun hh => hd hh.symm
        simp [hd, this]
    · rename_i h
      have := blt_f h
      rw [if_neg]
      intro hh
      have h1 := Option.some.inj hh.1
      exact Nat.not_lt.2 this (h1 ▸ hh.2)
  · simp
theorem TM.put {lag : Tmp → Prop} {f : AF} {fr : Frame} (h : TM ρ lag f fr) (hs : fr.tmps.size = f.nt) (d : Option Tmp) {v v' : Value} (hv : V ρ v v') {td : List Item} {td' : List AI} :
    TM ρ lag { f.put d v with todo := td' } { fr with tmps := match d with | some d => fr.tmps.setIfInBounds d v' | none => fr.tmps, todo := td } := by
  intro t u hl hu
  have hu' : (f.put d v).tmps.get t = some u := hu
  rw [put_get] at hu'
  split at hu'
  · rename_i hd
    cases hu'
    obtain ⟨h1, h2⟩ := hd
    subst h1
    exact ⟨v', by simp [hs, h2], hv⟩
  · rename_i hd
    obtain ⟨u', h1, h2⟩ := h t u hl hu'
    refine ⟨u', ?_, h2⟩
    have hlt : t < fr.tmps.size := (Array.getElem?_eq_some_iff.1 h1).1
    cases d with
    | none => exact h1
    | some d =>
      have : d ≠ t := fun hh => hd ⟨by rw [hh], by rw [← hs]; exact hlt⟩
      show (fr.tmps.setIfInBounds d v')[t]? = _
      rw [Array.getElem?_setIfInBounds_ne this]; exact h1
/-- Nobody else writes what a float writes. -/
theorem noDup_mem : ∀ {os : List Oper} {ws : List (Nat × Tmp)}, noDup os ws = true → ∀ i d, (i, d) ∈ ws → alone i d os 0 = true
  | os, [], _, i, d, h => by simp at h
  | os, (j, e) :: r, hn, i, d, h => by
    simp only [noDup] at hn
    split at hn
    · rename_i h1
      rcases List.mem_cons.1 h with h | h
      · cases h; exact h1
      · exact noDup_mem hn i d h
    · cases hn
theorem alone_spec {i : Nat} {d : Tmp} : ∀ {os : List Oper} {j : Nat}, alone i d os j = true → ∀ k o, os[k]? = some o → o.dst = some d → j + k = i
  | [], j, _, k, o, h, _ => by simp at h
  | p :: r, j, ha, k, o, h, hd => by
    simp only [alone] at ha
    cases k with
    | zero =>
      simp at h; subst h
      rw [hd] at ha
      simp only at ha
      split at ha
      · cases ha
      · rename_i hh
        cases hq : Nat.beq i j with
        | true => have : i = j := by simpa using hq
                  omega
        | false => exact (hh (by simp) hq).elim
    | succ k =>
      have := alone_spec (j := j + 1) (by
        split at ha
        · exact ha
        · split at ha
          · cases ha
          · exact ha) k o (by simpa using h) hd
      omega
theorem writes_mem {os : List Oper} : ∀ {j k : Nat} {o : Oper} {d : Tmp}, os[k]? = some o → o.dst = some d → isFloat b o = true → (j + k, d) ∈ writes b os j := by
  induction os with
  | nil => intro j k o d h; simp at h
  | cons p r ih =>
    intro j k o d h hd hf
    cases k with
    | zero => simp at h; subst h; simp [writes, hd, hf]
    | succ k =>
      have := ih (j := j + 1) (by simpa using h) hd hf
      rw [show j + 1 + k = j + (k + 1) by omega] at this
      simp only [writes]
      split
      · exact List.mem_cons_of_mem _ this
      · exact this
theorem reg_alone {ops : Array Oper} (hr : regOk b ops = true) {i j : Nat} {o p : Oper} {d : Tmp} (hi : ops[i]? = some o) (hd : o.dst = some d) (hf : isFloat b o = true) (hj : ops[j]? = some p) (hd' : p.dst = some d) : j = i := by
  unfold regOk at hr
  split at hr
  · rename_i hn
    have h1 : (0 + i, d) ∈ writes b ops.toList 0 := writes_mem (by simpa using hi) hd hf
    have := alone_spec (noDup_mem hn _ _ h1) j p (by simpa using hj) hd'
    omega
  · cases hr
theorem finish_kind (f : AF) (v : Value) : (f.finish v).kind = f.kind := by
  unfold AF.finish
  split <;> first | rfl | exact (put_tmps _ _ _).2.2.2.2.2.1
theorem raise_kind (f : AF) (c : List PanicEntry) : (Ev.raise f c).kind = f.kind := by
  unfold Ev.raise
  split <;> rfl
/-- An operation has ended. -/
theorem FR.finish {lo hi : Nat} {f : AF} {fr : Frame} (h : FR b ρ lo hi f fr) (hs : Sus f) {v v' : Value} (hv : V ρ v v') : FR b ρ lo hi (f.finish v) (fr.finish v') := by
  obtain ⟨fn, tmps, todo, defers, mode, kind, ro⟩ := fr
  have ht := h.todo
  cases hs with
  | reg hq =>
    rename_i ops i o r k
    cases ht with
    | dreg h1 => rw [h1] at hq; cases hq
    | dnow h1 => rw [h1] at hq; cases hq
    | plain htl htm =>
      rw [hq] at htl
      simp only at htl
      generalize htd : todo = td at htl
      cases htl with
      | reg _ _ hk hr =>
        rename_i k'
        subst htd
        have ho : ops[i]? = some o := by
          have : (ops.toList.drop i)[0]? = some o := by rw [← hr]; rfl
          rw [List.getElem?_drop] at this
          simpa using this
        have hr' : r = ops.toList.drop (i + 1) := by
          have := congrArg List.tail hr
          simpa [List.tail_drop] using this
        have e1 : f.finish v = { f.put o.dst v with todo := .reg ops (i + 1) r :: k } := by simp only [AF.finish, hq]
        have e2 : Frame.finish ⟨fn, tmps, .inRegion ops (List.range' i (o :: r).length) :: k', defers, mode, kind, ro⟩ v' =
            { (⟨fn, tmps, .inRegion ops (List.range' i (o :: r).length) :: k', defers, mode, kind, ro⟩ : Frame) with
              tmps := match o.dst with | some d => tmps.setIfInBounds d v' | none => tmps, todo := .inRegion ops (List.range' (i + 1) r.length) :: k' } := by
          simp [Frame.finish, List.range'_succ, ho]
          cases o.dst <;> rfl
        rw [e1, e2]
        obtain ⟨p1, p2, p3, p4, p5, p6, p7, p8, p9⟩ := put_tmps f o.dst v
        have hsz := h.size
        exact ⟨by simp only [p1]; exact h.fn, by simp only [p6]; exact h.kind, by simp only [p6]; exact h.kd, by simp only [p4]; exact h.dfs, by simp only [p5]; exact h.mode, by simp only [p7]; exact h.round,
          by simp only [p2]; cases o.dst <;> simpa using hsz, by simp only [p8]; exact h.gl, by simp only [p7, p1, p3]; exact h.res, .plain (.reg ops (i + 1) hk hr') (htm.put hsz o.dst hv)⟩
  | dnow hq =>
    rename_i ops done lag i o k
    cases ht with
    | plain htl htm => rw [hq] at htl; cases htl
    | dreg h1 => rw [h1] at hq; cases hq
    | dnow h1 h2 hk ho hni hd htm =>
      rw [hq] at h1; cases h1
      simp only at h2
      subst h2
      rename_i k' rest
      have e1 : f.finish v = { f.put o.dst v with todo := .dreg ops done lag none :: k } := by simp only [AF.finish, hq]
      have e2 : Frame.finish ⟨fn, tmps, .inRegion ops (i :: rest) :: k', defers, mode, kind, ro⟩ v' =
          { (⟨fn, tmps, .inRegion ops (i :: rest) :: k', defers, mode, kind, ro⟩ : Frame) with
            tmps := match o.dst with | some d => tmps.setIfInBounds d v' | none => tmps, todo := .inRegion ops rest :: k' } := by
        simp [Frame.finish, ho]
        cases o.dst <;> rfl
      rw [e1, e2]
      obtain ⟨p1, p2, p3, p4, p5, p6, p7, p8, p9⟩ := put_tmps f o.dst v
      have hsz := h.size
      -- what lags is not written
      have same : ∀ j ∈ rest, done.testBit j = true → ∀ p, ops[j]? = some p → isLay b p → ∀ d, p.dst = some d → ({ f.put o.dst v with todo := .dreg ops done lag none :: k } : AF).tmp d = f.tmp d := by
        intro j hj hdj p hp hl d hdd
        have : ¬ (o.dst = some d ∧ d < f.nt) := by
          rintro ⟨h3, _⟩
          have := reg_alone hd.reg hp hdd (hd.flt j hj hdj p hp) ho h3
          subst this; exact hni hj
        simp only [AF.tmp, put_get, if_neg this]
      have hd2 : DG b ρ lo hi { f.put o.dst v with todo := .dreg ops done lag none :: k } ops done lag rest :=
        { hd with
          unb := fun j hj hdj p hp hl d hdd hn r hr => hd.unb j hj hdj p hp hl d hdd (by rw [← p2]; exact hn) r (by rw [← same j hj hdj p hp hl d hdd]; exact hr)
          dis := fun a ha hda c hc hdc hne p q hp hq2 hlp hlq d e hdd hde hnd hne2 r hr hr2 => hd.dis a ha hda c hc hdc hne p q hp hq2 hlp hlq d e hdd hde (by rw [← p2]; exact hnd) (by rw [← p2]; exact hne2) r (by rw [← same a ha hda p hp hlp d hdd]; exact hr) (by rw [← same c hc hdc q hq2 hlq e hde]; exact hr2) }
      exact ⟨by simp only [p1]; exact h.fn, by simp only [p6]; exact h.kind, by simp only [p6]; exact h.kd, by simp only [p4]; exact h.dfs, by simp only [p5]; exact h.mode, by simp only [p7]; exact h.round,
        by simp only [p2]; cases o.dst <;> simpa using hsz, by simp only [p8]; exact h.gl, by simp only [p7, p1, p3]; exact h.res, .dreg rfl rfl hk hd2 (htm.put hsz o.dst hv)⟩
  | range hq =>
    rename_i l k
    cases ht with
    | dreg h1 => rw [h1] at hq; cases hq
    | dnow h1 => rw [h1] at hq; cases hq
    | plain htl htm =>
      rw [hq] at htl
      simp only at htl
      generalize htd : todo = td at htl
      cases htl with
      | inRange hk hl =>
        subst htd
        have e1 : f.finish v = { f with todo := .endRange l :: k } := by simp only [AF.finish, hq]
        rw [e1]
        exact ⟨h.fn, h.kind, h.kd, h.dfs, h.mode, h.round, h.size, h.gl, h.res, .plain (.endRange hk hl) htm⟩
end
end Go.Ev
end

section
set_option linter.unusedVariables false
set_option linter.unusedSimpArgs false
namespace Go.Ev
open Go Go.RowKit
/-- The abstract state and the machine's. -/
structure SR (b : Tb) (w0 : World) (base : List Frame) (s : AS) (fr : Frame) (cs : List Frame) (w : World) : Prop where
  ex : ∃ ρ lo, HR w0 ρ s.h w ∧ GlOk b ρ ∧ lo ≤ s.h.next ∧ FR b ρ lo s.h.next s.f fr ∧ Stack b ρ base lo s.f.kind s.cs cs
/-- The machine gets to a state like the abstract one. -/
def Gets (b : Tb) (w0 : World) (base : List Frame) (m : Machine) (s : AS) : Prop := ∃ fr cs w, SR b w0 base s fr cs w ∧ Steps b.P m (lone fr cs w)
/-- What an oracle must be. -/
def OrcOk (b : Tb) (w0 : World) (orc : List Orc) : Prop := ∀ o ∈ orc, ∀ args v, flatL args = true → o.args args = some v → flat v = true →
  ∀ w, Below w0.heap.size w0 w → Calls b.P o.f args.toArray w fun e w' => e = .returned v ∧ Below w.heap.size w w'
section
variable {b : Tb} {ρ : Rho} {w0 : World} {base : List Frame}
theorem below_HR {h : H} {w w' : World} (hr : HR w0 ρ h w) (hb : Below w.heap.size w w') : HR w0 ρ h w' :=
  { hr with
    bel := hr.bel.trans (hb.mono hr.bel.size)
    dom := fun hp => ⟨(hr.dom hp).1, Nat.lt_of_lt_of_le (hr.dom hp).2 hb.size⟩
    row := fun hp hg => (hr.row hp hg).mono (Ext.refl ρ) (hb.block _ (hr.dom hp).2)
    obj := fun hp hg => let ⟨h1, o', h2, h3⟩ := hr.obj hp hg; ⟨h1, o', by rw [hb.block _ (hr.dom hp).2]; exact h2, h3⟩ }
theorem flatL_mem : ∀ {l : List Value}, flatL l = true → ∀ v ∈ l, flat v = true
  | [], _, v, h => by simp at h
  | x :: r, hf, v, h => by
    simp only [flatL] at hf
    split at hf
    · rename_i h1
      rcases List.mem_cons.1 h with rfl | h
      · exact h1
      · exact flatL_mem hf v h
    · cases hf
theorem VL.flat {l l' : List Value} (h : VL ρ l l') (hf : flatL l = true) : l' = l := by
  induction h with
  | nil => rfl
  | cons h t ih =>
    rename_i v v' l l'
    have h1 := flatL_mem hf v (by simp)
    have h2 : flatL l = true := by
      simp only [flatL, h1] at hf; exact hf
    rw [h.flat h1, ih h2]
theorem findOrc_mem : ∀ {l : List Orc} {f : FuncId} {o : Orc}, findOrc l f = some o → o ∈ l ∧ o.f = f
  | [], f, o, h => by simp [findOrc] at h
  | x :: r, f, o, h => by
    simp only [findOrc] at h
    split at h
    · rename_i hq; cases h; exact ⟨by simp, by simpa using hq⟩
    · obtain ⟨h1, h2⟩ := findOrc_mem h; exact ⟨by simp [h1], h2⟩
theorem setAll_get : ∀ (l : List Value) (t : T Value) (i j : Nat), (setAll t i l).get j = if i ≤ j ∧ j < i + l.length then l[j - i]? else t.get j
  | [], t, i, j => by simp [setAll]; intro h1 h2; omega
  | x :: r, t, i, j => by
    simp only [setAll]
    rw [setAll_get r, T.get_set]
    by_cases h1 : j = i
    · subst h1; rw [if_neg (by omega), if_pos rfl, if_pos (by simp)]; simp
    · by_cases h2 : i + 1 ≤ j ∧ j < i + 1 + r.length
      · rw [if_pos h2, if_pos (by simp; omega)]
        rw [show j - i = (j - (i + 1)) + 1 by omega]; simp
      · rw [if_neg h2, if_neg h1, if_neg (by simp; omega)]
/-- A function is entered. -/
theorem enterF_ok (B : TbOk b) {g : FuncId} {args : List Value} {args' : Array Value} {kind : CallKind} {x : AF} {n : Nat} (hk : kind = .normal ∨ kind = .deferred) (he : enterF b g args kind = some x) (hv : VL ρ args args'.toList) :
    FR b ρ n n x (Frame.enter b.P g args' kind) ∧ x.kind = kind := by
  unfold enterF at he
  split at he
  case h_2 => cases he
  rename_i i hi
  cases he
  obtain ⟨fn, f1, f2, f3, f4⟩ := B.fn g i hi
  have hlen := hv.length
  refine ⟨⟨rfl, rfl, hk, .nil, .run, .none, ?_, rfl, fun _ => ⟨fn, f1, f4⟩, .plain ?_ ?_⟩, rfl⟩
  · simp only [Frame.enter, f1, Option.map_some, Option.getD_some, f3]
    simp at hlen ⊢
    show _ = max args.length i.nt
    omega
  · simp only [Frame.enter, f1, Option.bind_some, f2, Option.getD_some]
    exact .code _ .nil
  · intro t v _ hv'
    have hg : (setAll T.e 0 args).get t = some v := hv'
    rw [setAll_get] at hg
    split at hg
    · rename_i hin
      rw [Nat.sub_zero] at hg
      obtain ⟨v', h1, h2⟩ := hv.get hg
      refine ⟨v', ?_, h2⟩
      have h1' : args'[t]? = some v' := by simpa using h1
      have hlt : t < args'.size := (Array.getElem?_eq_some_iff.1 h1').1
      simp only [Frame.enter]
      rw [Array.getElem?_append_left hlt]; exact h1'
    · simp [T.get_e] at hg
theorem TL.notCall {k : List AI} {k' : List Item} (h : TL ρ k k') : ∀ d x y z r, k' ≠ .call d x y z :: r := by
  intro d x y z r hh
  subst hh
  cases h
theorem Sus.notCall {lo hi : Nat} {f : AF} {fr : Frame} (hf : FR b ρ lo hi f fr) (hs : Sus f) : ∀ d x y z k, fr.todo ≠ .call d x y z :: k := by
  intro d x y z k hh
  cases hf.todo with
  | plain h t => exact h.notCall d x y z k hh
  | dreg h h' => rw [hh] at h'; cases h'
  | dnow h h' => rw [hh] at h'; cases h'
theorem FR.raise {lo hi : Nat} {f : AF} {fr : Frame} (hf : FR b ρ lo hi f fr) {c c' : List PanicEntry} (hc : ChR ρ c c') : FR b ρ lo hi (Ev.raise f c) (fr.raise c') := by
  obtain ⟨fn, tmps, todo, defers, mode, kind, ro⟩ := fr
  have hm := hf.mode
  have key : ∀ {md md' : FrameMode}, MdR ρ md md' → FR b ρ lo hi { f with mode := md } ⟨fn, tmps, todo, defers, md', kind, ro⟩ := fun {md md'} h => by
    refine ⟨hf.fn, hf.kind, hf.kd, hf.dfs, h, hf.round, hf.size, hf.gl, hf.res, ?_⟩
    cases hf.todo with
    | plain h t => exact .plain h t
    | dreg h h' hk hd t => exact .dreg h h' hk { hd with unb := hd.unb, dis := hd.dis } t
    | dnow h h' hk ho hni hd t => exact .dnow h h' hk ho hni { hd with unb := hd.unb, dis := hd.dis } t
  unfold Ev.raise Frame.raise
  simp only at hm ⊢
  generalize f.mode = md at hm
  cases hm with
  | run => exact key (.panicking hc)
  | returning => exact key (.panicking hc)
  | panicking h => exact key (.panicking (hc.append h))
/-- An operation's effect. -/
theorem apply_ok (B : TbOk b) {orc : List Orc} (ho : OrcOk b w0 orc) {lo : Nat} {f : AF} {fr : Frame} {cs : List AF} {cs' : List Frame} {h : H} {w : World} {s : Sem Next} {r : Ro} {s' : AS}
    (hr : HR w0 ρ h w) (hg : GlOk b ρ) (hl : lo ≤ h.next) (hf : FR b ρ lo h.next f fr) (hsus : Sus f) (hmode : f.mode = .run) (hst : Stack b ρ base lo f.kind cs cs')
    (hp : EfPost b w0 ρ h w s r) (ha : Ev.apply b orc f cs r = .go s')
    {m0 : Machine} (hgo : ∀ fr2 cs2 w2, (stepG.apply b.P true fr cs' none s w).bare = .go { frame := fr2, callers := cs2, status := .running, dying := none } w2 → Steps b.P m0 (lone fr2 cs2 w2)) :
    Gets b w0 base m0 s' := by
  cases r with
  | val v h' =>
    obtain ⟨ρ', w', v', k1, k2, k3, k4, k5⟩ := hp
    simp only [Ev.apply] at ha; cases ha
    exact ⟨fr.finish v', cs', w', ⟨ρ', lo, k2, hg.mono k1.1, by show lo ≤ h'.next; omega, (hf.mono k1 k5).finish hsus k4, by
      show Stack b ρ' base lo (f.finish v).kind cs cs'
      rw [finish_kind]; exact hst.mono (k1.mono hl)⟩, hgo _ _ _ (ap_value k3)⟩
  | skip h' =>
    obtain ⟨w', k1, k2, k3⟩ := hp
    simp only [Ev.apply] at ha; cases ha
    exact ⟨fr.finish undef, cs', w', ⟨ρ, lo, k1, hg, by show lo ≤ h'.next; omega, (hf.mono (ExtN.refl _ _) (by show h.next ≤ h'.next; omega)).finish hsus (V.tuple_mk .nil), by
      show Stack b ρ base lo (f.finish undef).kind cs cs'
      rw [finish_kind]; exact hst⟩, hgo _ _ _ (ap_skip k2)⟩
  | enter g args h' =>
    obtain ⟨rfl, ⟨i, hi⟩, args', k2, k3⟩ := hp
    simp only [Ev.apply] at ha
    split at ha
    · rename_i orc1 hor
      obtain ⟨hm, hof⟩ := findOrc_mem hor
      split at ha
      · rename_i v hfl hav
        split at ha
        · rename_i hfv
          cases ha
          have hargs : args'.toList = args := k3.flat hfl
          have hargs' : args' = args.toArray := by apply Array.toList_inj.1; simpa using hargs
          obtain ⟨e, w', fr2, ⟨he, hb⟩, hcomes, hfn, hleave⟩ := ho orc1 hm args v hfl hav hfv w hr.bel (fr :: cs')
          subst he
          rw [hof, ← hargs'] at hcomes
          have h1 : Steps b.P m0 (lone (Frame.enter b.P g args' .normal) (fr :: cs') w) := hgo _ _ _ (ap_enter k2 (hsus.notCall hf))
          have h2 : Steps b.P (lone fr2 (fr :: cs') w') (lone (fr.finish v) cs' w') := .one (step_leave_returned hleave)
          exact ⟨fr.finish v, cs', w', ⟨ρ, lo, below_HR hr hb, hg, hl, hf.finish hsus (V.of_flat ρ hfv), by
            show Stack b ρ base lo (f.finish v).kind cs cs'
            rw [finish_kind]; exact hst⟩, h1.trans (Steps.trans hcomes h2)⟩
        · cases ha
      · cases ha
    · split at ha
      · rename_i x hx
        cases ha
        obtain ⟨e1, e2⟩ := enterF_ok (n := h'.next) B (.inl rfl) hx k3
        refine ⟨_, fr :: cs', w, ⟨ρ, h'.next, hr, hg, Nat.le_refl _, e1, ?_⟩, hgo _ _ _ (ap_enter k2 (hsus.notCall hf))⟩
        show Stack b ρ base h'.next x.kind (f :: cs) (fr :: cs')
        exact .cons hl hf (fun _ => ⟨hsus, hmode⟩) hst
      · cases ha
  | defer d h' =>
    obtain ⟨rfl, d', k1, k2⟩ := hp
    simp only [Ev.apply] at ha; cases ha
    have hf2 : FR b ρ lo h'.next { f with defers := d :: f.defers } { fr with defers := d' :: fr.defers } := by
      obtain ⟨fn, tmps, todo, defers, mode, kind, ro⟩ := fr
      refine ⟨hf.fn, hf.kind, hf.kd, .cons k2 hf.dfs, hf.mode, hf.round, hf.size, hf.gl, hf.res, ?_⟩
      cases hf.todo with
      | plain h t => exact .plain h t
      | dreg h h' hk hd t => exact .dreg h h' hk { hd with unb := hd.unb, dis := hd.dis } t
      | dnow h h' hk ho hni hd t => exact .dnow h h' hk ho hni { hd with unb := hd.unb, dis := hd.dis } t
    have hs2 : Sus { f with defers := d :: f.defers } := by
      cases hsus with
      | reg h => exact .reg h
      | dnow h => exact .dnow h
      | range h => exact .range h
    exact ⟨_, cs', w, ⟨ρ, lo, hr, hg, hl, hf2.finish hs2 (V.tuple_mk .nil), by
      show Stack b ρ base lo (AF.finish { f with defers := d :: f.defers } undef).kind cs cs'
      rw [finish_kind]; exact hst⟩, hgo _ _ _ (ap_defer k1)⟩
  | recov h' =>
    obtain ⟨rfl, k1⟩ := hp
    simp only [Ev.apply] at ha
    split at ha
    · cases ha
    · rename_i hrd
      have hrd' : fr.roundOf = none := by
        have := hf.round
        rw [hrd] at this
        generalize hq : fr.roundOf = q at this
        cases this; rfl
      have hap := ap_recover (P := b.P) (cs := cs') k1 hrd'
      -- what recover finds
      have hrec : (Ev.tryRec f cs = none ∧ tryRecover fr cs' = none) ∨ ∃ v v' c2 c2', Ev.tryRec f cs = some (v, c2) ∧ tryRecover fr cs' = some (v', c2') ∧ V ρ v v' ∧ Stack b ρ base lo f.kind c2 c2' := by
        have hk := hf.kind
        rcases hf.kd with hkd | hkd
        · left
          rw [hkd] at hk
          exact ⟨by simp [Ev.tryRec, hkd], by simp [tryRecover, hk]⟩
        · rw [hkd] at hk hst
          cases hst with
          | cons hlo hc hs t =>
            rename_i lo2 c c' cs2 cs2'
            have hm := hc.mode
            obtain ⟨fn, tmps, todo, defers, mode, kind, ro⟩ := c'
            simp only at hm
            cases hcm : c.mode with
            | run => rw [hcm] at hm; cases hm; left; exact ⟨by simp [Ev.tryRec, hkd, hcm], by simp [tryRecover, hk]⟩
            | returning => rw [hcm] at hm; cases hm; left; exact ⟨by simp [Ev.tryRec, hkd, hcm], by simp [tryRecover, hk]⟩
            | panicking chain =>
              rw [hcm] at hm
              cases hm with
              | panicking hch =>
                cases hch with
                | nil => left; exact ⟨by simp [Ev.tryRec, hkd, hcm], by simp [tryRecover, hk]⟩
                | cons r hv ht =>
                  rename_i v v' l l'
                  cases r with
                  | true => left; exact ⟨by simp [Ev.tryRec, hkd, hcm], by simp [tryRecover, hk]⟩
                  | false =>
                    right
                    refine ⟨v, v', { c with mode := .panicking (⟨v, true, false⟩ :: l) } :: cs2, { (⟨fn, tmps, todo, defers, .panicking (⟨v', false, false⟩ :: l'), kind, ro⟩ : Frame) with mode := .panicking (⟨v', true, false⟩ :: l') } :: cs2', by simp [Ev.tryRec, hkd, hcm], by simp [tryRecover, hk], hv, ?_⟩
                    rw [hkd]
                    refine .cons hlo ⟨hc.fn, hc.kind, hc.kd, hc.dfs, .panicking (.cons true hv ht), hc.round, hc.size, hc.gl, hc.res, ?_⟩ (fun hh => by cases hh) t
                    cases hc.todo with
                    | plain h t => exact .plain h t
                    | dreg h h' hk hd t => exact .dreg h h' hk { hd with unb := hd.unb, dis := hd.dis } t
                    | dnow h h' hk ho hni hd t => exact .dnow h h' hk ho hni { hd with unb := hd.unb, dis := hd.dis } t
      rcases hrec with ⟨g1, g2⟩ | ⟨v, v', c2, c2', g1, g2, g3, g4⟩
      · rw [g1] at ha; cases ha
        rw [g2] at hap
        exact ⟨_, cs', w, ⟨ρ, lo, hr, hg, hl, hf.finish hsus .nilIface, by
          show Stack b ρ base lo (f.finish .nilIface).kind cs cs'
          rw [finish_kind]; exact hst⟩, hgo _ _ _ (hap)⟩
      · rw [g1] at ha; cases ha
        rw [g2] at hap
        exact ⟨_, c2', w, ⟨ρ, lo, hr, hg, hl, hf.finish hsus g3, by
          show Stack b ρ base lo (f.finish v).kind c2 c2'
          rw [finish_kind]; exact g4⟩, hgo _ _ _ (hap)⟩
  | round l g nt tm asg bd h' =>
    obtain ⟨rfl, L, tm', k1, k2, k3⟩ := hp
    simp only [Ev.apply] at ha; cases ha
    refine ⟨_, fr :: cs', w, ⟨ρ, h'.next, hr, hg, Nat.le_refl _, ⟨rfl, rfl, .inl rfl, .nil, .run, .some k1, k3.size, hf.gl, fun hh => (by cases hh), .plain (.code _ (.begin (.code _ .nil))) ?_⟩, .cons hl hf (fun _ => ⟨hsus, hmode⟩) hst⟩, hgo _ _ _ (ap_round k2)⟩
    intro t v _ hv
    exact k3.get t v hv
  | panic v h' =>
    obtain ⟨rfl, v', k1, k2⟩ := hp
    simp only [Ev.apply] at ha; cases ha
    exact ⟨_, cs', w, ⟨ρ, lo, hr, hg, hl, hf.raise (.cons false k2 .nil), by
      show Stack b ρ base lo (Ev.raise f _).kind cs cs'
      rw [raise_kind]; exact hst⟩, hgo _ _ _ (ap_panic k1)⟩
  | bad => simp only [Ev.apply] at ha; cases ha
end
end Go.Ev
end

section
set_option linter.unusedVariables false
set_option linter.unusedSimpArgs false
namespace Go.Ev
open Go Go.RowKit
/-! ### The orders of a region -/
theorem filter_lt {p q : Nat → Bool} : ∀ (n : Nat), (∀ i, i < n → q i = true → p i = true) → (∃ i, i < n ∧ p i = true ∧ q i = false) → ((List.range n).filter q).length < ((List.range n).filter p).length
  | 0, _, ⟨i, h, _⟩ => by omega
  | n + 1, h, ⟨i, hi, h1, h2⟩ => by
    have le : ((List.range n).filter q).length ≤ ((List.range n).filter p).length := filter_le n fun j hj => h j (by omega)
    simp only [List.range_succ, List.filter_append, List.length_append]
    by_cases hin : i = n
    · subst hin
      simp [h1, h2]; omega
    · have lt := filter_lt n (fun j hj => h j (by omega)) ⟨i, by omega, h1, h2⟩
      have : ((List.filter q [n]).length) ≤ ((List.filter p [n]).length) := by
        by_cases hq : q n = true
        · simp [hq, h n (by omega) hq]
        · simp [hq]
      omega
where
  filter_le {p q : Nat → Bool} : ∀ (n : Nat), (∀ i, i < n → q i = true → p i = true) → ((List.range n).filter q).length ≤ ((List.range n).filter p).length
    | 0, _ => by simp
    | n + 1, h => by
      have le := filter_le n fun j hj => h j (by omega)
      simp only [List.range_succ, List.filter_append, List.length_append]
      have : ((List.filter q [n]).length) ≤ ((List.filter p [n]).length) := by
        by_cases hq : q n = true
        · simp [hq, h n (by omega) hq]
        · simp [hq]
      omega
theorem edgesLt_mem {i : Nat} : ∀ {l : List Edge}, edgesLt i l = true → ∀ e ∈ l, Region.binds .any e = true → e.on < i
  | [], _, e, h, _ => by simp at h
  | x :: r, hl, e, h, hb => by
    simp only [edgesLt] at hl
    split at hl
    · cases hl
    · rename_i hh
      rcases List.mem_cons.1 h with rfl | h
      · cases hq : Nat.blt e.on i with
        | true => exact blt_t hq
        | false => exact (hh hb hq).elim
      · exact edgesLt_mem hl e h hb
theorem regGo_edges {ops : Array Oper} {an : List Nat} {ws : List (Nat × Tmp)} : ∀ {os : List Oper} {j : Nat}, regGo ops an ws os j = true → ∀ k o, os[k]? = some o → edgesLt (j + k) o.after.toList = true ∧ okNames (nth an (j + k)) (names ops o) ws = true
  | [], j, _, k, o, h => by simp at h
  | p :: r, j, hg, k, o, h => by
    simp only [regGo] at hg
    split at hg
    · rename_i h1 h2
      cases k with
      | zero => simp at h; subst h; exact ⟨h1, h2⟩
      | succ k =>
        have := regGo_edges hg k o (by simpa using h)
        rw [show j + 1 + k = j + (k + 1) by omega] at this
        exact this
    · cases hg
theorem regOk_go {b : Tb} {ops : Array Oper} (h : regOk b ops = true) : regGo ops (ancs ops) (writes b ops.toList 0) ops.toList 0 = true := by
  unfold regOk at h
  split at h
  · exact h
  · cases h
theorem reg_edges {b : Tb} {ops : Array Oper} (h : regOk b ops = true) {i : Nat} {o : Oper} (ho : ops[i]? = some o) : ∀ e ∈ o.after.toList, Region.binds .any e = true → e.on < i := by
  have := (regGo_edges (regOk_go h) i o (by simpa using ho)).1
  rw [Nat.zero_add] at this
  exact edgesLt_mem this
def unlisted (listed : Array Bool) (n : Nat) : Nat := ((List.range n).filter fun i => !listed.getD i true).length
theorem least_unlisted (listed : Array Bool) : ∀ n, (∃ i, i < n ∧ listed.getD i true = false) → ∃ i, i < n ∧ listed.getD i true = false ∧ ∀ j, j < i → listed.getD j true = true
  | 0, ⟨i, h, _⟩ => by omega
  | n + 1, h => by
    by_cases hn : ∃ i, i < n ∧ listed.getD i true = false
    · obtain ⟨i, h1, h2, h3⟩ := least_unlisted listed n hn
      exact ⟨i, by omega, h2, h3⟩
    · obtain ⟨i, h1, h2⟩ := h
      have hin : i = n := by
        rcases Nat.lt_or_ge i n with hlt | hge
        · exact absurd ⟨i, hlt, h2⟩ hn
        · omega
      subst hin
      refine ⟨i, h1, h2, fun j hj => ?_⟩
      cases hq : listed.getD j true with
      | true => rfl
      | false => exact absurd ⟨j, hj, hq⟩ hn
theorem getD_set {a : Array Bool} {i : Nat} (j : Nat) (d : Bool) (hi : i < a.size) : (a.setIfInBounds i true).getD j d = if j = i then true else a.getD j d := by
  simp only [Array.getD_eq_getD_getElem?]
  by_cases h : j = i
  · subst h; simp [hi]
  · rw [Array.getElem?_setIfInBounds_ne (Ne.symm h)]; simp [h]
/-- Any order of a region: each operation behind its edges, each once, all of them. -/
theorem lin_go {ops : Array Oper} (hE : ∀ i o, ops[i]? = some o → ∀ e ∈ o.after.toList, Region.binds .any e = true → e.on < i) : ∀ (fuel t : Nat) (listed : Array Bool), listed.size = ops.size →
    Ord ops (Region.linearise.go .any ops fuel t listed []) ∧ (∀ i ∈ Region.linearise.go .any ops fuel t listed [], listed.getD i true = false) ∧
      (unlisted listed ops.size ≤ fuel → ∀ i, i < ops.size → listed.getD i true = false → i ∈ Region.linearise.go .any ops fuel t listed [])
  | 0, t, listed, hs => by
    simp only [Region.linearise.go, List.reverse_nil]
    refine ⟨.nil, fun i h => by simp at h, fun hu i hi hl => ?_⟩
    have : i ∈ (List.range ops.size).filter fun i => !listed.getD i true := by simp only [List.mem_filter, List.mem_range, hl, Bool.not_false, and_self, hi]
    unfold unlisted at hu
    have := List.length_pos_of_mem this
    omega
  | fuel + 1, t, listed, hs => by
    simp only [Region.linearise.go]
    change Ord ops (match (Region.ready .any ops listed)[t % (Region.ready .any ops listed).length]? with
      | some i => Region.linearise.go .any ops fuel (t / (Region.ready .any ops listed).length) (listed.setIfInBounds i true) [i]
      | none => [].reverse) ∧ (∀ i ∈ (match (Region.ready .any ops listed)[t % (Region.ready .any ops listed).length]? with
      | some i => Region.linearise.go .any ops fuel (t / (Region.ready .any ops listed).length) (listed.setIfInBounds i true) [i]
      | none => [].reverse), listed.getD i true = false) ∧ (unlisted listed ops.size ≤ fuel + 1 → ∀ i, i < ops.size → listed.getD i true = false → i ∈ (match (Region.ready .any ops listed)[t % (Region.ready .any ops listed).length]? with
      | some i => Region.linearise.go .any ops fuel (t / (Region.ready .any ops listed).length) (listed.setIfInBounds i true) [i]
      | none => [].reverse))
    cases hr : (Region.ready .any ops listed)[t % (Region.ready .any ops listed).length]? with
    | none =>
      refine ⟨.nil, fun i h => by simp at h, fun hu i hi hl => ?_⟩
      -- some operation is ready
      exfalso
      obtain ⟨j, j1, j2, j3⟩ := least_unlisted listed ops.size ⟨i, hi, hl⟩
      have hj : j ∈ Region.ready .any ops listed := by
        simp only [Region.ready, List.mem_filter, List.mem_range, j1, true_and, j2, Bool.not_false, Bool.true_and]
        rw [Array.getElem?_eq_getElem j1]
        simp only [Option.map_some, Option.getD_some]
        rw [← Array.all_toList, List.all_eq_true]
        intro e he
        cases hb : Region.binds .any e with
        | false => simp
        | true =>
          have hlt := hE j ops[j] (by simp [j1]) e he hb
          have h1 := j3 e.on hlt
          have h2 : e.on < listed.size := by omega
          simp only [Array.getD_eq_getD_getElem?, Array.getElem?_eq_getElem h2, Option.getD_some] at h1 ⊢
          simp [h1]
      have hpos := List.length_pos_of_mem hj
      have hlt := Nat.mod_lt t hpos
      rw [List.getElem?_eq_getElem hlt] at hr
      cases hr
    | some i =>
      have hi := List.mem_of_getElem? hr
      simp only [Region.ready, List.mem_filter, List.mem_range, Bool.and_eq_true, Bool.not_eq_true'] at hi
      obtain ⟨hin, hli, hed⟩ := hi
      have hio : ops[i]? = some ops[i] := by simp [hin]
      rw [hio] at hed
      simp only [Option.map_some, Option.getD_some] at hed
      rw [← Array.all_toList, List.all_eq_true] at hed
      simp only []
      rw [linearise_go_acc, List.reverse_singleton, List.singleton_append]
      have hs2 : (listed.setIfInBounds i true).size = ops.size := by simpa using hs
      obtain ⟨a1, a2, a3⟩ := lin_go hE fuel (t / (Region.ready .any ops listed).length) (listed.setIfInBounds i true) hs2
      generalize Region.linearise.go .any ops fuel (t / (Region.ready .any ops listed).length) (listed.setIfInBounds i true) [] = l at a1 a2 a3
      have hisz : i < listed.size := by omega
      have hnot : i ∉ l := fun hm => by
        have := a2 i hm
        rw [getD_set i true hisz] at this
        simp at this
      refine ⟨.cons hio (fun e he hb hm => ?_) hnot a1, fun j hj => ?_, fun hu j hj hl => ?_⟩
      · have h1 := hed e he
        rw [hb] at h1
        simp only [Bool.not_true, Bool.false_or] at h1
        rcases List.mem_cons.1 hm with h2 | h2
        · rw [h2] at h1
          have : listed.getD i true = true := by
            simp only [Array.getD_eq_getD_getElem?, Array.getElem?_eq_getElem hisz, Option.getD_some] at h1 ⊢
            exact h1
          rw [hli] at this; cases this
        · have h3 := a2 _ h2
          rw [getD_set _ true hisz] at h3
          split at h3
          · cases h3
          · have : e.on < listed.size := by
              rcases Nat.lt_or_ge e.on listed.size with q | q
              · exact q
              · simp [Array.getD_eq_getD_getElem?, Array.getElem?_eq_none q] at h1
            simp only [Array.getD_eq_getD_getElem?, Array.getElem?_eq_getElem this, Option.getD_some] at h1 h3
            rw [h1] at h3; cases h3
      · rcases List.mem_cons.1 hj with h2 | h2
        · rw [h2]; exact hli
        · have h3 := a2 _ h2
          rw [getD_set _ true hisz] at h3
          split at h3
          · cases h3
          · exact h3
      · by_cases hji : j = i
        · rw [hji]; simp
        · refine List.mem_cons_of_mem _ (a3 ?_ j hj (by rw [getD_set _ true hisz, if_neg hji]; exact hl))
          have : unlisted (listed.setIfInBounds i true) ops.size < unlisted listed ops.size := by
            unfold unlisted
            refine filter_lt ops.size (fun a ha hq => ?_) ⟨i, hin, by simp [hli], by simp [getD_set i true hisz]⟩
            rw [getD_set a true hisz] at hq
            split at hq
            · cases hq
            · exact hq
          omega
theorem lin_ok {b : Tb} {ops : Array Oper} (hr : regOk b ops = true) (t : Nat) : Ord ops (Region.linearise .any ops t) ∧ ∀ i, i < ops.size → i ∈ Region.linearise .any ops t := by
  unfold Region.linearise
  obtain ⟨h1, h2, h3⟩ := lin_go (ops := ops) (fun i o ho => reg_edges hr ho) ops.size t (Array.replicate ops.size false) (by simp)
  refine ⟨h1, fun i hi => h3 ?_ i hi (by simp [Array.getD_eq_getD_getElem?, hi])⟩
  unfold unlisted
  exact Nat.le_trans (List.length_filter_le _ _) (by simp)
end Go.Ev
end

section
set_option linter.unusedVariables false
set_option linter.unusedSimpArgs false
namespace Go.Ev
open Go Go.RowKit
section
variable {b : Tb} {ρ : Rho} {w0 : World} {base : List Frame}
theorem FR.plain {lo hi : Nat} {f : AF} {fn : FuncId} {tmps : Array Value} {todo td' : List Item} {td : List AI} {defers : List Deferred} {mode : FrameMode} {kind : CallKind} {ro : Option Nat}
    (hf : FR b ρ lo hi f ⟨fn, tmps, todo, defers, mode, kind, ro⟩) (t : TM ρ (fun _ => False) f ⟨fn, tmps, todo, defers, mode, kind, ro⟩) (h : TL ρ td td') : FR b ρ lo hi { f with todo := td } ⟨fn, tmps, td', defers, mode, kind, ro⟩ :=
  ⟨hf.fn, hf.kind, hf.kd, hf.dfs, hf.mode, hf.round, hf.size, hf.gl, hf.res, .plain h t⟩
theorem FR.setMode {lo hi : Nat} {f : AF} {fn : FuncId} {tmps : Array Value} {todo : List Item} {defers : List Deferred} {mode md' : FrameMode} {md : FrameMode} {kind : CallKind} {ro : Option Nat}
    (hf : FR b ρ lo hi f ⟨fn, tmps, todo, defers, mode, kind, ro⟩) (h : MdR ρ md md') : FR b ρ lo hi { f with mode := md } ⟨fn, tmps, todo, defers, md', kind, ro⟩ := by
  refine ⟨hf.fn, hf.kind, hf.kd, hf.dfs, h, hf.round, hf.size, hf.gl, hf.res, ?_⟩
  cases hf.todo with
  | plain h t => exact .plain h t
  | dreg h h' hk hd t => exact .dreg h h' hk { hd with unb := hd.unb, dis := hd.dis } t
  | dnow h h' hk ho hni hd t => exact .dnow h h' hk ho hni { hd with unb := hd.unb, dis := hd.dis } t
theorem asExit_ok {id : Nat} : ∀ {k : List AI} {k' : List Item}, TL ρ k k' → (asExit id k = none → exitTo id k' = none) ∧ ∀ r, asExit id k = some r → ∃ r', exitTo id k' = some r' ∧ TL ρ r r'
  | _, _, .nil => ⟨fun _ => rfl, fun r h => by simp [asExit] at h⟩
  | _, _, .code c h => by
    have := asExit_ok (id := id) h
    exact ⟨fun q => by simp only [exitTo]; exact this.1 (by simpa [asExit] using q), fun r q => by simp only [exitTo]; exact this.2 r (by simpa [asExit] using q)⟩
  | _, _, .inLoop c h => by
    have := asExit_ok (id := id) h
    exact ⟨fun q => by simp only [exitTo]; exact this.1 (by simpa [asExit] using q), fun r q => by simp only [exitTo]; exact this.2 r (by simpa [asExit] using q)⟩
  | _, _, .inScope c h => by
    have := asExit_ok (id := id) h
    exact ⟨fun q => by simp only [exitTo]; exact this.1 (by simpa [asExit] using q), fun r q => by simp only [exitTo]; exact this.2 r (by simpa [asExit] using q)⟩
  | _, _, .reg ops i h hr => by
    have := asExit_ok (id := id) h
    exact ⟨fun q => by simp only [exitTo]; exact this.1 (by simpa [asExit] using q), fun r q => by simp only [exitTo]; exact this.2 r (by simpa [asExit] using q)⟩
  | _, _, .inRange h hl => by
    have := asExit_ok (id := id) h
    exact ⟨fun q => by simp only [exitTo]; exact this.1 (by simpa [asExit] using q), fun r q => by simp only [exitTo]; exact this.2 r (by simpa [asExit] using q)⟩
  | _, _, .endRange h hl => by
    have := asExit_ok (id := id) h
    exact ⟨fun q => by simp only [exitTo]; exact this.1 (by simpa [asExit] using q), fun r q => by simp only [exitTo]; exact this.2 r (by simpa [asExit] using q)⟩
  | _, _, .begin h => by
    have := asExit_ok (id := id) h
    exact ⟨fun q => by simp only [exitTo]; exact this.1 (by simpa [asExit] using q), fun r q => by simp only [exitTo]; exact this.2 r (by simpa [asExit] using q)⟩
  | _, _, .inBlock l h => by
    have ih := asExit_ok (id := id) h
    by_cases hq : l = id
    · subst hq
      have : Nat.beq l l = true := by simp
      exact ⟨fun q => by simp [asExit] at q, fun r q => by simp [asExit] at q; subst q; exact ⟨_, by simp [exitTo], h⟩⟩
    · have hb := beq_ne hq
      have hb2 : (l == id) = false := by simpa using hq
      exact ⟨fun q => by simp only [exitTo, hb2]; exact ih.1 (by simpa only [asExit, hb] using q), fun r q => by simp only [exitTo, hb2]; exact ih.2 r (by simpa only [asExit, hb] using q)⟩
/-- A round's end. -/
theorem m_leaveRound {P : Program} {fn : FuncId} {tmps : Array Value} {td : List Item} {defers : List Deferred} {l : Nat} {jump : Option Code} {c : Frame} {cs : List Frame} {w w' : World} {v : Value}
    (hr : (Instr.endRound l jump).run P w = .ok v w') (ht : (td = [] ∧ jump = none) ∨ (∃ k, td = .code .ret :: k ∧ jump = some .ret) ∨ ∃ id k, td = .code (.exit id) :: k ∧ jump = some (.exit id) ∧ exitTo id k = none) :
    Steps P (lone ⟨fn, tmps, td, defers, .run, .normal, some l⟩ (c :: cs) w) (lone (c.finish v) cs w') := by
  refine st_go ?_
  rcases ht with ⟨rfl, rfl⟩ | ⟨k, rfl, rfl⟩ | ⟨id, k, rfl, rfl, he⟩
  · simp [stepG, stepG.exec, Sem.runT_eq, hr, doReturn]
  · simp [stepG, stepG.exec, Sem.runT_eq, hr, doReturn]
  · simp [stepG, stepG.exec, he, Sem.runT_eq, hr, doReturn]
theorem leave_ok (B : TbOk b) {lo : Nat} {s : AS} {fn : FuncId} {tmps : Array Value} {td : List Item} {defers : List Deferred} {kind : CallKind} {ro : Option Nat} {cs' : List Frame} {w : World} {jump : Option Code} {s' : AS}
    (hr : HR w0 ρ s.h w) (hg : GlOk b ρ) (hl : lo ≤ s.h.next) (hf : FR b ρ lo s.h.next s.f ⟨fn, tmps, td, defers, .run, kind, ro⟩) (hst : Stack b ρ base lo s.f.kind s.cs cs')
    (ht : (td = [] ∧ jump = none) ∨ (∃ k, td = .code .ret :: k ∧ jump = some .ret) ∨ ∃ id k, td = .code (.exit id) :: k ∧ jump = some (.exit id) ∧ exitTo id k = none)
    (ha : Ev.leave b s jump = .go s') : Gets b w0 base (lone ⟨fn, tmps, td, defers, .run, kind, ro⟩ cs' w) s' := by
  have hround := hf.round
  have hkind := hf.kind
  simp only at hround hkind
  unfold Ev.leave at ha
  split at ha
  · rename_i hrd
    rw [hrd] at hround
    cases hround
    have ret : ∀ {td}, FR b ρ lo s.h.next s.f ⟨fn, tmps, td, defers, .run, kind, none⟩ → Steps b.P (lone ⟨fn, tmps, td, defers, .run, kind, none⟩ cs' w) (lone ⟨fn, tmps, td, defers, .returning, kind, none⟩ cs' w) →
        Gets b w0 base (lone ⟨fn, tmps, td, defers, .run, kind, none⟩ cs' w) { s with f := { s.f with mode := .returning } } := fun hf hs =>
      ⟨_, cs', w, ⟨ρ, lo, hr, hg, hl, hf.setMode .returning, hst⟩, hs⟩
    rcases ht with ⟨rfl, rfl⟩ | ⟨k, rfl, rfl⟩ | ⟨id, k, rfl, rfl, he⟩
    · simp only at ha; cases ha; exact ret hf m_end
    · simp only at ha; cases ha; exact ret hf m_ret
    · simp only at ha; cases ha
  · rename_i l hrd
    rw [hrd] at hround
    cases hround with
    | some hL =>
      rename_i L
      split at ha
      case h_2 => cases ha
      rename_i v h' c cs hend hcs hkd
      cases ha
      rw [hkd] at hkind hst
      subst hkind
      rw [hcs] at hst
      cases hst with
      | cons hlo hc hsus hst2 =>
        rename_i lo2 c' cs2'
        obtain ⟨hs1, hs2⟩ := hsus rfl
        -- the loop's object
        unfold Ev.leave.h_end at hend
        split at hend
        case h_2 => cases hend
        rename_i st pd fn2 nt tm ps asg bd dfs hget
        obtain ⟨tm', ps', D, d1, d2, d3, d4, d5⟩ := hr.loop hL hget
        have fin : ∀ {st2 : LoopState} {pd2 : Option Code} {bv : Bool} {h2 : H}, h2 = s.h.put l (.obj (.loop st2 pd2 fn2 nt tm ps asg bd dfs)) → (Instr.endRound L.b jump).run b.P w = .ok (.bool bv) { w with heap := w.heap.setIfInBounds L.b (.loop ⟨st2, pd2, fn2, tm', ps', asg, bd, D.b⟩) } →
            Gets b w0 base (lone ⟨fn, tmps, td, defers, .run, .normal, some L.b⟩ (c' :: cs2') w) ⟨c.finish (.bool bv), cs, h2⟩ := fun {st2 pd2 bv h2} hh hrun => by
          subst hh
          have hr2 := hr.putObj (o2 := .loop st2 pd2 fn2 nt tm ps asg bd dfs) (o2' := .loop ⟨st2, pd2, fn2, tm', ps', asg, bd, D.b⟩) hL hget (.loop d1 d2 d3)
          refine ⟨_, cs2', _, ⟨ρ, lo2, hr2, hg, Nat.le_trans hlo hl, (hc.mono (ExtN.refl _ _) hl).finish hs1 (.bool bv), ?_⟩, m_leaveRound hrun ht⟩
          show Stack b ρ base lo2 (c.finish (.bool bv)).kind cs cs2'
          rw [finish_kind]; exact hst2
        have hset := fun o2 => run_setObj (P := b.P) d4 (by intro _ _ _ hh; cases hh) o2
        cases jump with
        | none =>
          simp only at hend; cases hend
          exact fin rfl (by simp [Instr.endRound, d5, hset])
        | some j =>
          simp only at hend; cases hend
          exact fin rfl (by simp [Instr.endRound, d5, hset])
/-- The range over a function. -/
theorem m_rangeFunc {P : Program} {fn : FuncId} {tmps : Array Value} {defers : List Deferred} {kind : CallKind} {ro : Option Nat} {cs : List Frame} {w w1 : World} {k : List Item} {x : Operand} {params : Array Tmp} {asg bd : Code} {l : Nat} {mk : List Deferred}
    (he : (Instr.enterLoop fn tmps params asg bd ro).run P w = .ok (l, mk) w1) {fr2 : Frame} {cs2 : List Frame} {w2 : World}
    (h : (stepG.apply P true ⟨fn, tmps, .inRangeFunc l :: k, mk ++ defers, .run, kind, ro⟩ cs none (do
        let d ← resolve (Frame.eval ⟨fn, tmps, .inRangeFunc l :: k, mk ++ defers, .run, kind, ro⟩) { callee := .value x, args := #[.const (.func (.yield l) #[] #[])], argTypes := #[] } 0
        invoke d.target d.args) w1).bare = .go { frame := fr2, callers := cs2, status := .running, dying := none } w2) :
    Steps P (lone ⟨fn, tmps, .code (.rangeFunc x params asg bd) :: k, defers, .run, kind, ro⟩ cs w) (lone fr2 cs2 w2) := by
  refine st_go ?_
  rw [← h]
  simp [stepG, stepG.exec, Sem.runT_eq, he]
end
end Go.Ev
end

section
set_option linter.unusedVariables false
set_option linter.unusedSimpArgs false
namespace Go.Ev
open Go Go.RowKit
section
variable {b : Tb} {ρ : Rho} {w0 : World} {base : List Frame}
theorem TM.all {f : AF} {fr : Frame} (h : TM ρ (fun _ => False) f fr) (lag : Tmp → Prop) : TM ρ lag f fr := fun t v _ hv => h t v id hv
theorem TM.tr {f : AF} {fr : Frame} (h : TM ρ (fun _ => False) f fr) (hs : fr.tmps.size = f.nt) : TR ρ f.nt f.tmps fr.tmps := ⟨hs, fun i v hv => h i v id hv⟩
theorem code_ok (B : TbOk b) {orc : List Orc} (ho : OrcOk b w0 orc) {lo : Nat} {s : AS} {fn : FuncId} {tmps : Array Value} {c : Code} {k : List AI} {k' : List Item} {defers : List Deferred} {kind : CallKind} {ro : Option Nat} {cs' : List Frame} {w : World} {s' : AS}
    (hr : HR w0 ρ s.h w) (hg : GlOk b ρ) (hl : lo ≤ s.h.next) (hf : FR b ρ lo s.h.next s.f ⟨fn, tmps, .code c :: k', defers, .run, kind, ro⟩) (hmode : s.f.mode = .run) (hst : Stack b ρ base lo s.f.kind s.cs cs')
    (t : TM ρ (fun _ => False) s.f ⟨fn, tmps, .code c :: k', defers, .run, kind, ro⟩) (hk : TL ρ k k') (ha : s_code b orc s k c = .go s') :
    Gets b w0 base (lone ⟨fn, tmps, .code c :: k', defers, .run, kind, ro⟩ cs' w) s' := by
  have go : ∀ {td : List AI} {td' : List Item}, TL ρ td td' → Steps b.P (lone ⟨fn, tmps, .code c :: k', defers, .run, kind, ro⟩ cs' w) (lone ⟨fn, tmps, td', defers, .run, kind, ro⟩ cs' w) →
      Gets b w0 base (lone ⟨fn, tmps, .code c :: k', defers, .run, kind, ro⟩ cs' w) { s with f := { s.f with todo := td } } := fun htl hs => ⟨_, cs', w, ⟨ρ, lo, hr, hg, hl, hf.plain t htl, hst⟩, hs⟩
  cases c with
  | skip => simp only [s_code] at ha; cases ha; exact go hk m_skip
  | label l => simp only [s_code] at ha; cases ha; exact go hk m_label
  | seq x y => simp only [s_code] at ha; cases ha; exact go (.code x (.code y hk)) m_seq
  | block id c => simp only [s_code] at ha; cases ha; exact go (.code c (.inBlock id hk)) m_block
  | loop c => simp only [s_code] at ha; cases ha; exact go (.code c (.inLoop c hk)) m_loop
  | scope c => simp only [s_code] at ha; cases ha; exact go (.code c (.inScope c hk)) m_scope
  | goto l => simp only [s_code] at ha; cases ha
  | refuse y => simp only [s_code] at ha; cases ha
  | ret => simp only [s_code] at ha; exact leave_ok B hr hg hl hf hst (.inr (.inl ⟨k', rfl, rfl⟩)) ha
  | exit id =>
    simp only [s_code] at ha
    have hx := asExit_ok (id := id) hk
    split at ha
    · rename_i r hq
      cases ha
      obtain ⟨r', e1, e2⟩ := hx.2 r hq
      exact go e2 (m_exit e1)
    · rename_i hq
      exact leave_ok B hr hg hl hf hst (.inr (.inr ⟨id, k', rfl, rfl, hx.1 hq⟩)) ha
  | cond x y z =>
    simp only [s_code] at ha
    have hx := t.eval hg hf.gl (x := x) (fun _ _ => id)
    split at ha
    · rename_i hq; cases ha; rw [hq] at hx
      exact go (.code y hk) (m_cond (t := true) hx.bool_inv)
    · rename_i hq; cases ha; rw [hq] at hx
      exact go (.code z hk) (m_cond (t := false) hx.bool_inv)
    · cases ha
  | region id ops draw =>
    simp only [s_code] at ha
    cases draw with
    | false =>
      simp only at ha; cases ha
      have h1 := m_region (P := b.P) (fn := fn) (tmps := tmps) (defers := defers) (kind := kind) (ro := ro) (cs := cs') (w := w) (k := k') (id := id) (ops := ops)
      rw [List.range_eq_range'] at h1
      refine go (TL.reg (r := ops.toList) ops 0 hk (by simp)) ?_
      simpa using h1
    | true =>
      simp only at ha
      split at ha
      case h_2 => cases ha
      rename_i hreg
      cases ha
      obtain ⟨tp, h1⟩ := m_regionDraw (P := b.P) (fn := fn) (tmps := tmps) (defers := defers) (kind := kind) (ro := ro) (cs := cs') (w := w) (k := k') (id := id) (ops := ops)
      have hsch : Region.schedule (b.P.follows .mixedOrders) ops tp = Region.linearise .any ops tp := by
        simp only [Region.schedule, B.mixed, Bool.true_or, if_true]
      rw [hsch] at h1
      obtain ⟨o1, o2⟩ := lin_ok hreg tp
      have z : ∀ i, (0 : Nat).testBit i = true → False := fun i hi => by simp at hi
      refine ⟨⟨fn, tmps, .inRegion ops (Region.linearise .any ops tp) :: k', defers, .run, kind, ro⟩, cs', { w with drawn := w.drawn + 1 }, ⟨ρ, lo, hr.congr rfl rfl rfl rfl, hg, hl, ⟨hf.fn, hf.kind, hf.kd, hf.dfs, hf.mode, hf.round, hf.size, hf.gl, hf.res, .dreg rfl rfl hk
        ⟨hreg, o1, fun i hi _ => o2 i hi, fun i _ hi => (z i hi).elim, fun i _ hi => (z i hi).elim, fun i _ hi => (z i hi).elim, fun i _ hi => (z i hi).elim, fun i o hio hn => absurd (o2 i (Array.getElem?_eq_some_iff.1 hio).1) hn⟩ (by exact TM.all t _)⟩, hst⟩, h1⟩
  | rangeFunc x params asg bd =>
    simp only [s_code] at ha
    have hx := t.eval hg hf.gl (x := x) (fun _ _ => id)
    have htr := t.tr hf.size
    have hround := hf.round
    simp only at hround
    -- what is left once the loop's own objects are laid
    have main : ∀ {ρ1 : Rho} {h1 : H} {w1 : World} {d : Nat} {D : Loc} {mk mk' : List Deferred}, ExtN ρ ρ1 s.h.next → HR w0 ρ1 h1 w1 → s.h.next ≤ h1.next → ρ1 d = some D → DL ρ1 mk mk' →
        (Instr.enterLoop fn tmps params asg bd ro).run b.P w = .ok (w1.heap.size, mk') (w1.alloc (.loop ⟨.ready, none, fn, tmps, params, asg, bd, D.b⟩)) →
        (match s.f.eval x with
          | .func (.func g) a cp => Ev.apply b orc { s.f with todo := .inRange h1.next :: k, defers := mk ++ s.f.defers } s.cs (enterOk b g (a.toList ++ (Value.func (.yield h1.next) #[] #[] :: cp.toList)) (h1.push (.obj (.loop .ready none s.f.id s.f.nt s.f.tmps params.toList asg bd d))))
          | _ => .bad 10) = .go s' → Gets b w0 base (lone ⟨fn, tmps, .code (.rangeFunc x params asg bd) :: k', defers, .run, kind, ro⟩ cs' w) s' := by
      intro ρ1 h1 w1 d D mk mk' ext hr1 hn1 hd1 hmk henter hgo
      have hfn : s.f.id = fn := hf.fn.symm
      have hr2 := hr1.newObj (ob := .loop .ready none s.f.id s.f.nt s.f.tmps params.toList asg bd d) (ob' := .loop ⟨.ready, none, fn, tmps, params, asg, bd, D.b⟩) (by rw [hfn]; exact .loop hd1 (htr.mono ext.1) rfl)
      have hρ1 : ρ1 h1.next = none := hr1.fresh (Nat.le_refl _)
      have ext2 : ExtN ρ1 (upd ρ1 h1.next ⟨w1.heap.size, 0, 0, 0⟩) h1.next := upd_extN hρ1 (Nat.le_refl _)
      have ext3 : ExtN ρ (upd ρ1 h1.next ⟨w1.heap.size, 0, 0, 0⟩) s.h.next := ext.trans (ext2.mono hn1)
      split at hgo
      case h_2 => cases hgo
      rename_i g a cp hq
      rw [hq] at hx
      obtain ⟨a', c', e1, e2, e3⟩ := hx.func_inv
      have hl1 : (upd ρ1 h1.next ⟨w1.heap.size, 0, 0, 0⟩) h1.next = some ⟨w1.heap.size, 0, 0, 0⟩ := upd_same _ _ _
      have hf2 : FR b (upd ρ1 h1.next ⟨w1.heap.size, 0, 0, 0⟩) lo (h1.push (.obj (.loop .ready none s.f.id s.f.nt s.f.tmps params.toList asg bd d))).next { s.f with todo := .inRange h1.next :: k, defers := mk ++ s.f.defers } ⟨fn, tmps, .inRangeFunc w1.heap.size :: k', mk' ++ defers, .run, kind, ro⟩ := by
        have hfm := hf.mono ext3 (hi' := (h1.push (.obj (.loop .ready none s.f.id s.f.nt s.f.tmps params.toList asg bd d))).next) (by rw [H.next_push]; omega)
        exact ⟨hfm.fn, hfm.kind, hfm.kd, (hmk.mono ext2.1).append hfm.dfs, hfm.mode, hfm.round, hfm.size, hfm.gl, hfm.res, .plain (.inRange (hk.mono ext3.1) hl1) (t.mono ext3.1)⟩
      refine apply_ok (ρ := upd ρ1 h1.next ⟨w1.heap.size, 0, 0, 0⟩) (lo := lo) B ho hr2 (hg.mono ext3.1) (by rw [H.next_push]; omega) hf2 (.range rfl) hmode (hst.mono (ext3.mono hl)) ?_ hgo (fun fr2 cs2 w2 hb => m_rangeFunc henter hb)
      refine enterOk_ok B (args' := a' ++ #[.func (.yield w1.heap.size) #[] #[]] ++ c') ?_ ?_
      · have he : Frame.eval ⟨fn, tmps, .inRangeFunc w1.heap.size :: k', mk' ++ defers, .run, kind, ro⟩ x = Frame.eval ⟨fn, tmps, .code (.rangeFunc x params asg bd) :: k', defers, .run, kind, ro⟩ x := by cases x <;> rfl
        have hm : Array.map (Frame.eval ⟨fn, tmps, .inRangeFunc w1.heap.size :: k', mk' ++ defers, .run, kind, ro⟩) #[Operand.const (Value.func (.yield w1.heap.size) #[] #[])] = #[Value.func (.yield w1.heap.size) #[] #[]] := by simp [Frame.eval]
        simp only [resolve, he, e1, Deferred.ofValue, hm]
        rfl
      · have := (e2.mono ext3.1).append (VL.cons (V.yield hl1) (e3.mono ext3.1))
        simpa using this
    split at ha
    · cases ha
    · rename_i d mk h1 hq
      split at hq
      · -- the loop around is none
        rename_i hrd
        cases hq
        rw [hrd] at hround
        cases hround
        have hr1 := hr.newObj (ob := .deferred (some [])) (ob' := .deferred (some [])) (.def1 .nil)
        have hρ : ρ s.h.next = none := hr.fresh (Nat.le_refl _)
        have hl1 : (upd ρ s.h.next ⟨w.heap.size, 0, 0, 0⟩) s.h.next = some ⟨w.heap.size, 0, 0, 0⟩ := upd_same _ _ _
        refine main (D := ⟨w.heap.size, 0, 0, 0⟩) (mk' := [{ target := .collected w.heap.size, args := #[] }]) (upd_extN hρ (Nat.le_refl _)) hr1 (Nat.le_succ _) hl1 (.cons ⟨.col hl1, .nil⟩ .nil) ?_ ha
        simp [Instr.enterLoop, World.alloc_eq]
      · rename_i l hrd
        split at hq
        · rename_i st pd f2 nt tm ps a2 b2 d2 hget
          cases hq
          rw [hrd] at hround
          cases hround with
          | some hL =>
            obtain ⟨tm', ps', D, d1, d2', d3, d4, d5⟩ := hr.loop hL hget
            refine main (D := D) (mk' := []) (ExtN.refl _ _) hr (Nat.le_refl _) d1 .nil ?_ ha
            simp [Instr.enterLoop, d5]
        · cases hq
end
end Go.Ev
end

section
set_option linter.unusedVariables false
set_option linter.unusedSimpArgs false
namespace Go.Ev
open Go Go.RowKit
section
variable {b : Tb} {ρ : Rho} {w0 : World} {base : List Frame}
/-- Whether an operation is wanted. -/
theorem wanted_ok {lag : Tmp → Prop} {f : AF} {fr : Frame} (h : TM ρ lag f fr) {ops : Array Oper} {o : Oper} {r : Bool} (hl : ∀ j w oj d, o.guard = some (j, w) → ops[j]? = some oj → oj.dst = some d → ¬ lag d) (hw : wantedT f ops o = some r) :
    Region.wanted o (yielded ops fr.tmps) = r := by
  unfold wantedT at hw
  unfold Region.wanted
  cases hgd : o.guard with
  | none => rw [hgd] at hw; simpa using hw
  | some jw =>
    obtain ⟨j, w⟩ := jw
    rw [hgd] at hw
    simp only [yielded] at hw ⊢
    cases hj : ops[j]? with
    | none => rw [hj] at hw; simpa using hw
    | some oj =>
      rw [hj] at hw
      simp only [Option.bind_some] at hw ⊢
      cases hd : oj.dst with
      | none => rw [hd] at hw; simpa using hw
      | some d =>
        rw [hd] at hw
        simp only [Option.bind_some] at hw ⊢
        cases hv : f.tmps.get d with
        | none => rw [hv] at hw; cases hw
        | some v =>
          rw [hv] at hw
          obtain ⟨v', h4, h5⟩ := h d v (hl j w oj d hgd hj hd) hv
          rw [h4]
          cases h5 with
          | junk => cases hw
          | bool c => cases c <;> cases w <;> simpa using hw
          | _ => simpa using hw
/-- One operation, whatever its kind. -/
theorem oneOp_ok (B : TbOk b) {o : Oper} {h : H} {w : World} {f : AF} {e : Operand → Value} (hr : HR w0 ρ h w) (he : ∀ x ∈ o.op.operands.toList, V ρ (f.eval x) (e x)) :
    EfPost b w0 ρ h w (execOp e o) (oneOp b f o h) := by
  unfold oneOp
  split
  · rename_i p hc
    split
    · rename_i v hp
      obtain ⟨v', k1, k2⟩ := pure_ok B hc w0 ρ h w f e v hr he hp
      exact ef_same hr k1 k2
    · trivial
  · rename_i l hc
    split
    · rename_i c t k hl
      obtain ⟨c', k1, k2, k3, k4⟩ := lay_ok B hc w0 ρ h w f e c t k hr he hl
      have hρ : ρ h.next = none := hr.fresh (Nat.le_refl _)
      have hr2 := (hr.push (.row (layRow c t)) (fun y hy => by cases hy; rfl)).birth (r := h.next) (x := layRow c t) (c' := c') (by rw [H.next_push]; omega) hρ (by rw [H.get_push, if_pos rfl]) k3 (by have := k2.length; simp at this; show c.length ≤ c'.size; omega)
        (by
          have := k2.length
          show VL ρ c (c'.toList.take c.length)
          rw [this, List.take_length]; exact k2) (fun _ => by have := k2.length; simp at this; show c.length = c'.size; exact this) (0, 0) (fun j _ hh => by simp at hh)
      refine ⟨_, _, _, upd_extN hρ (Nat.le_refl _), hr2, k1, ?_, Nat.le_succ _⟩
      cases k with
      | none => exact .ptr (L := ⟨w.heap.size, 0, 0, c'.size⟩) (upd_same _ _ _) rfl rfl
      | some nm =>
        obtain ⟨n, m⟩ := nm
        exact .sliceK (L := ⟨w.heap.size, 0, 0, c'.size⟩) (upd_same _ _ _) rfl rfl (k4 n m rfl)
    · trivial
  · rename_i ef hc
    exact eff_ok B hc w0 ρ h w f e hr he
theorem oneOp_notDefer {o : Oper} {f : AF} {h : H} (hr : f.round ≠ none) (hb : oneOp b f o h ≠ .bad) : ∀ c, o.op ≠ .defer c := by
  intro c hc
  apply hb
  unfold oneOp
  rw [hc]
  simp only [clsOf]
  unfold ef_deferOp
  cases hq : f.round with
  | none => exact absurd hq hr
  | some l => rfl
theorem apply_notBad {orc : List Orc} {f : AF} {cs : List AF} {r : Ro} {s' : AS} (h : Ev.apply b orc f cs r = .go s') : r ≠ .bad := by
  intro hr; subst hr; simp only [Ev.apply] at h; cases h
/-- A region in order: one operation. -/
theorem reg_ok (B : TbOk b) {orc : List Orc} (ho : OrcOk b w0 orc) {lo : Nat} {s : AS} {fn : FuncId} {tmps : Array Value} {k : List AI} {td : List Item} {ops : Array Oper} {i : Nat} {o : Oper} {r : List Oper} {defers : List Deferred} {kind : CallKind} {ro : Option Nat} {cs' : List Frame} {w : World} {s' : AS}
    (hr : HR w0 ρ s.h w) (hg : GlOk b ρ) (hl : lo ≤ s.h.next) (hf : FR b ρ lo s.h.next s.f ⟨fn, tmps, td, defers, .run, kind, ro⟩) (hmode : s.f.mode = .run) (hst : Stack b ρ base lo s.f.kind s.cs cs')
    (t : TM ρ (fun _ => False) s.f ⟨fn, tmps, td, defers, .run, kind, ro⟩) (htd : s.f.todo = .reg ops i (o :: r) :: k) (htl : TL ρ (.reg ops i (o :: r) :: k) td) (ha : s_reg b orc s k ops o = .go s') :
    Gets b w0 base (lone ⟨fn, tmps, td, defers, .run, kind, ro⟩ cs' w) s' := by
  cases htl with
  | reg _ _ hk hrr =>
    rename_i k'
    have hoi : ops[i]? = some o := by
      have : (ops.toList.drop i)[0]? = some o := by rw [← hrr]; rfl
      rw [List.getElem?_drop] at this
      simpa using this
    have hrange : List.range' i (o :: r).length = i :: List.range' (i + 1) r.length := by simp [List.range'_succ]
    rw [hrange] at *
    have he : ∀ x ∈ o.op.operands.toList, V ρ (s.f.eval x) (Frame.eval ⟨fn, tmps, .inRegion ops (i :: List.range' (i + 1) r.length) :: k', defers, .run, kind, ro⟩ x) := fun x _ => t.eval hg hf.gl (fun _ _ => id)
    unfold s_reg at ha
    split at ha
    · rename_i hw
      have hwc := wanted_ok t (fun _ _ _ _ _ _ _ => id) hw
      have hpost := oneOp_ok B (o := o) (f := s.f) hr he
      have hnd : ro = none ∨ ∀ c, o.op ≠ .defer c := by
        cases hq : s.f.round with
        | none =>
          have := hf.round
          rw [hq] at this
          simp only at this
          left; cases this; rfl
        | some l => right; exact oneOp_notDefer (by rw [hq]; simp) (apply_notBad ha)
      exact apply_ok B ho hr hg hl hf (.reg htd) hmode hst hpost ha (fun fr2 cs2 w2 hb => st_go (by rw [stepG_reg hoi hwc hnd]; exact hb))
    · rename_i hw
      have hwc := wanted_ok t (fun _ _ _ _ _ _ _ => id) hw
      cases ha
      refine ⟨_, cs', w, ⟨ρ, lo, hr, hg, hl, hf.finish (.reg htd) (V.tuple_mk .nil), ?_⟩, m_skipOp hoi hwc⟩
      show Stack b ρ base lo (s.f.finish undef).kind s.cs cs'
      rw [finish_kind]; exact hst
    · cases ha
/-- A round begins. -/
theorem m_begin {P : Program} {fn : FuncId} {tmps : Array Value} {k : List Item} {defers : List Deferred} {kind : CallKind} {l : Nat} {cs : List Frame} {w w' : World} (h : (Instr.beginRound l).run P w = .ok () w') :
    Steps P (lone ⟨fn, tmps, .beginRound :: k, defers, .run, kind, some l⟩ cs w) (lone ⟨fn, tmps, k, defers, .run, kind, some l⟩ cs w') := by
  refine st_go ?_
  have hs : ((do (some l).elim (stuck "beginRound: no round") Instr.beginRound; pure .skip) : Sem Next).run P w = .ok .skip w' := by
    simp [h]
  have := ap_skip (P := P) (fr := ⟨fn, tmps, .beginRound :: k, defers, .run, kind, some l⟩) (cs := cs) hs
  simp only [stepG, stepG.exec]
  rw [this]
  rfl
/-- A loop has ended. -/
theorem m_endRange {P : Program} {fn : FuncId} {tmps : Array Value} {k : List Item} {defers : List Deferred} {kind : CallKind} {ro : Option Nat} {l : Nat} {jump : Option Code} {cs : List Frame} {w w' : World} (h : (Instr.endLoop l).run P w = .ok jump w') :
    Steps P (lone ⟨fn, tmps, .endRangeFunc l :: k, defers, .run, kind, ro⟩ cs w) (lone ⟨fn, tmps, (jump.map Item.code).toList ++ k, defers, .run, kind, ro⟩ cs w') :=
  st_go (by simp [stepG, stepG.exec, Sem.runT_eq, h])
theorem m_collected {P : Program} {fn : FuncId} {tmps : Array Value} {td : List Item} {ds calls : List Deferred} {args : Array Value} {mode : FrameMode} {kind : CallKind} {ro : Option Nat} {c : Nat} {cs : List Frame} {w w' : World} (hm : mode ≠ .run)
    (h : (Instr.takeDeferred c).run P w = .ok calls w') :
    Steps P (lone ⟨fn, tmps, td, { target := .collected c, args } :: ds, mode, kind, ro⟩ cs w) (lone ⟨fn, tmps, td, calls ++ ds, mode, kind, ro⟩ cs w') := by
  refine st_go ?_
  cases mode with
  | run => exact absurd rfl hm
  | returning => simp [stepG, unwind, Sem.runT_eq, h]
  | panicking ch => simp [stepG, unwind, Sem.runT_eq, h]
theorem m_deferred {P : Program} {fn : FuncId} {tmps : Array Value} {td : List Item} {ds : List Deferred} {args cp : Array Value} {mode : FrameMode} {kind : CallKind} {ro : Option Nat} {g : FuncId} {cs : List Frame} {w : World} (hm : mode ≠ .run)
    (h : (callFunc g (args ++ cp)).run P w = .ok (.enter g (args ++ cp)) w) :
    Steps P (lone ⟨fn, tmps, td, { target := .fn (.func g) cp, args } :: ds, mode, kind, ro⟩ cs w) (lone (Frame.enter P g (args ++ cp) .deferred) (⟨fn, tmps, td, ds, mode, kind, ro⟩ :: cs) w) := by
  refine st_go ?_
  cases mode with
  | run => exact absurd rfl hm
  | returning => simp [stepG, unwind, callDeferred, invoke, Sem.runT_eq, h]
  | panicking ch => simp [stepG, unwind, callDeferred, invoke, Sem.runT_eq, h]
theorem m_panicOut {P : Program} {fn : FuncId} {tmps : Array Value} {td : List Item} {chain : List PanicEntry} {kind : CallKind} {ro : Option Nat} {c : Frame} {cs : List Frame} {w : World} (hc : Frame.catches P ⟨fn, tmps, td, [], .panicking chain, kind, ro⟩ = false) :
    Steps P (lone ⟨fn, tmps, td, [], .panicking chain, kind, ro⟩ (c :: cs) w) (lone (c.raise chain) cs w) :=
  st_go (by simp [stepG, unwind, hc])
theorem m_return {P : Program} {fn : FuncId} {tmps : Array Value} {td : List Item} {ro : Option Nat} {c : Frame} {cs : List Frame} {w : World} {f : Func} {v : Value} (hf : P.funcs[fn]? = some f) (hr : (results f tmps).run P w = .ok v w) :
    Steps P (lone ⟨fn, tmps, td, [], .returning, .normal, ro⟩ (c :: cs) w) (lone (c.finish v) cs w) :=
  st_go (by simp [stepG, unwind, hf, Sem.runT_eq, hr, doReturn])
theorem m_returnD {P : Program} {fn : FuncId} {tmps : Array Value} {td : List Item} {ro : Option Nat} {c c2 : Frame} {cs : List Frame} {w : World} {f : Func} {v : Value} (hf : P.funcs[fn]? = some f) (hr : (results f tmps).run P w = .ok v w)
    (hc : c2 = match c.mode with
        | .panicking ({ recovered := true, .. } :: older) => (match older.dropWhile (!·.goexit) with | [] => { c with mode := .returning } | rest => { c with mode := .panicking rest })
        | _ => c) :
    Steps P (lone ⟨fn, tmps, td, [], .returning, .deferred, ro⟩ (c :: cs) w) (lone c2 cs w) := by
  subst hc
  refine st_go ?_
  simp only [stepG, unwind, hf, Sem.runT_eq, hr, doReturn]
  rfl
end
end Go.Ev
end

section
set_option linter.unusedVariables false
set_option linter.unusedSimpArgs false
namespace Go.Ev
open Go Go.RowKit
section
variable {b : Tb} {ρ : Rho} {w0 : World} {base : List Frame}
/-- What a result variable holds. -/
def resS (tmps : Array Value) : ResultVar → Sem Value
  | .tmp t => pure (tmps.getD t undef)
  | .cell a t => do loadVar t (← asAddr (tmps.getD a undef))
theorem oneRes_ok (B : TbOk b) {s : AS} {fr : Frame} {w : World} (hr : HR w0 ρ s.h w) {lag : Tmp → Prop} (t : TM ρ lag s.f fr) {r : ResultVar} (hl : ¬ lag (resTmp r)) {v : Value} (h : oneRes b s r = some v) : ∃ v', (resS fr.tmps r).run b.P w = .ok v' w ∧ V ρ v v' := by
  cases r with
  | tmp x => simp only [oneRes] at h; cases h; exact ⟨_, rfl, t.tmp hl⟩
  | cell a ty =>
    simp only [oneRes] at h
    have hx := t.tmp (t := a) hl
    split at h
    · rename_i ad i h1 h2
      rw [h1] at hx
      obtain ⟨L, l1, l2, l3⟩ := hx.ptr_inv
      obtain ⟨v', k1, k2⟩ := run_loadVar (B.ty _ _ h2) hr l1 h
      exact ⟨v', by simp [resS, l3, asAddr, k1], k2⟩
    · cases h
theorem allRes_ok (B : TbOk b) {s : AS} {fr : Frame} {w : World} (hr : HR w0 ρ s.h w) {lag : Tmp → Prop} (t : TM ρ lag s.f fr) : ∀ {l : List ResultVar} {vs : List Value}, (∀ r ∈ l, ¬ lag (resTmp r)) → allRes b s l = some vs → ∃ vs', (l.mapM (resS fr.tmps)).run b.P w = .ok vs' w ∧ VL ρ vs vs'
  | [], vs, _, h => by simp only [allRes] at h; cases h; exact ⟨[], by simp, .nil⟩
  | r :: l, vs, hl, h => by
    simp only [allRes] at h
    split at h
    · rename_i v vs2 h1 h2
      cases h
      obtain ⟨v', k1, k2⟩ := oneRes_ok B hr t (hl r (by simp)) h1
      obtain ⟨vs', q1, q2⟩ := allRes_ok B hr t (fun r hr => hl r (by simp [hr])) h2
      exact ⟨v' :: vs', by simp [List.mapM_cons, k1, q1], .cons k2 q2⟩
    · cases h
theorem resOf_ok (B : TbOk b) {s : AS} {fr : Frame} {w : World} (hr : HR w0 ρ s.h w) {lag : Tmp → Prop} (t : TM ρ lag s.f fr) (hl : ∀ r ∈ s.f.res, ¬ lag (resTmp r)) {f : Func} (hf : f.results.toList = s.f.res) {v : Value} (h : resOf b s = some v) : ∃ v', (results f fr.tmps).run b.P w = .ok v' w ∧ V ρ v v' := by
  have key : ∀ {vs : List Value}, allRes b s s.f.res = some vs → ∃ vs', (f.results.mapM (resS fr.tmps)).run b.P w = .ok vs'.toArray w ∧ VL ρ vs vs' := fun {vs} hv => by
    obtain ⟨vs', q1, q2⟩ := allRes_ok B hr t hl hv
    refine ⟨vs', ?_, q2⟩
    rw [Array.mapM_eq_mapM_toList, hf]
    simp [q1]
  have hdef : results f fr.tmps = (do let vs ← f.results.mapM (resS fr.tmps); pure (if h : vs.size = 1 then vs[0] else .tuple vs)) := by
    unfold results
    congr 1
  unfold resOf at h
  rw [hdef]
  split at h
  · rename_i x hx
    cases h
    obtain ⟨vs', q1, q2⟩ := key hx
    cases q2 with
    | cons hv ht =>
      cases ht
      rename_i v'
      exact ⟨v', by simp [q1], hv⟩
  · rename_i vs hne hx
    cases h
    obtain ⟨vs', q1, q2⟩ := key hx
    have hsz : ¬ vs'.toArray.size = 1 := by
      intro hh
      have hl := q2.length
      have : vs.length = 1 := by rw [hl]; simpa using hh
      match vs, this with
      | [y], _ => exact hne y rfl
    exact ⟨.tuple vs'.toArray, by simp only [Sem.run_bind, q1, Result.andThen_ok, Sem.run_pure, hsz, dif_neg, not_false_eq_true], V.tuple_mk (by simpa using q2)⟩
  · cases h
theorem noCatch {P : Program} {fr : Frame} (h : ∀ d x y z k, fr.todo ≠ .call d x y z :: k) : fr.catches P = false := by
  unfold Frame.catches
  split
  · rename_i hh; exact absurd hh (h _ _ _ _ _)
  · rfl
theorem FR.notCall {lo hi : Nat} {f : AF} {fr : Frame} (hf : FR b ρ lo hi f fr) : ∀ d x y z k, fr.todo ≠ .call d x y z :: k := by
  intro d x y z k hh
  cases hf.todo with
  | plain h t => exact h.notCall d x y z k hh
  | dreg h h' => rw [hh] at h'; cases h'
  | dnow h h' => rw [hh] at h'; cases h'
theorem FR.setDefers {lo hi : Nat} {f : AF} {fn : FuncId} {tmps : Array Value} {todo : List Item} {defers ds' : List Deferred} {ds : List Deferred} {mode : FrameMode} {kind : CallKind} {ro : Option Nat}
    (hf : FR b ρ lo hi f ⟨fn, tmps, todo, defers, mode, kind, ro⟩) (h : DL ρ ds ds') : FR b ρ lo hi { f with defers := ds } ⟨fn, tmps, todo, ds', mode, kind, ro⟩ := by
  refine ⟨hf.fn, hf.kind, hf.kd, h, hf.mode, hf.round, hf.size, hf.gl, hf.res, ?_⟩
  cases hf.todo with
  | plain h t => exact .plain h t
  | dreg h h' hk hd t => exact .dreg h h' hk { hd with unb := hd.unb, dis := hd.dis } t
  | dnow h h' hk ho hni hd t => exact .dnow h h' hk ho hni { hd with unb := hd.unb, dis := hd.dis } t
theorem lagFree_mem {ops : Array Oper} {d : Tmp} : ∀ {l : List Nat}, lagFree ops d l = true → ∀ i ∈ l, ∀ o, ops[i]? = some o → o.dst ≠ some d
  | [], _, i, hi, _, _ => by simp at hi
  | j :: r, h, i, hi, o, ho => by
    simp only [lagFree] at h
    rcases List.mem_cons.1 hi with rfl | hi
    · rw [ho] at h
      simp only at h
      intro hd
      rw [hd] at h
      simp at h
    · refine lagFree_mem (l := r) ?_ i hi o ho
      split at h
      · exact h
      · split at h
        · exact h
        · split at h
          · cases h
          · exact h
theorem resFreeL_mem {ops : Array Oper} {lag : List Nat} : ∀ {l : List ResultVar}, resFreeL ops lag l = true → ∀ r ∈ l, lagFree ops (resTmp r) lag = true
  | [], _, r, hr => by simp at hr
  | x :: l, h, r, hr => by
    simp only [resFreeL] at h
    split at h
    · rename_i h1
      rcases List.mem_cons.1 hr with rfl | hr
      · exact h1
      · exact resFreeL_mem h r hr
    · cases h
/-- Results are known where nothing lags that writes them. -/
theorem FR.free {lo hi : Nat} {f : AF} {fr : Frame} (hf : FR b ρ lo hi f fr) (hc : resFree f = true) : ∃ lag, TM ρ lag f fr ∧ ∀ r ∈ f.res, ¬ lag (resTmp r) := by
  have key : ∀ {ops : Array Oper} {done : Nat} {lag : List Nat} {rest : List Nat}, DG b ρ lo hi f ops done lag rest → resFreeL ops lag f.res = true → ∀ r ∈ f.res, ¬ Lg ops done rest (resTmp r) := by
    intro ops done lag rest hd h r hr ⟨i, o, h1, h2, h3, h4⟩
    exact lagFree_mem (resFreeL_mem h r hr) i (hd.lagm i h1 h2) o h3 h4
  cases hf.todo with
  | plain h t => exact ⟨_, t, fun _ _ => id⟩
  | dreg h h' hk hd t => exact ⟨_, t, key hd (by simpa [resFree, h] using hc)⟩
  | dnow h h' hk ho hni hd t => exact ⟨_, t, key hd (by simpa [resFree, h] using hc)⟩
theorem Stack.cons_inv {hi : Nat} {kd : CallKind} {c : AF} {cs : List AF} {cs' : List Frame} (h : Stack b ρ base hi kd (c :: cs) cs') :
    ∃ lo c' cs2', cs' = c' :: cs2' ∧ lo ≤ hi ∧ FR b ρ lo hi c c' ∧ (kd = .normal → Sus c ∧ c.mode = .run) ∧ Stack b ρ base lo c.kind cs cs2' := by
  cases h with
  | cons hl h hs t => exact ⟨_, _, _, rfl, hl, h, hs, t⟩
theorem unpanic_ok {lo hi : Nat} {c c2 : AF} {c' : Frame} (hc : FR b ρ lo hi c c') (h : unpanic c = some c2) :
    FR b ρ lo hi c2 (match c'.mode with
        | .panicking ({ recovered := true, .. } :: older) => (match older.dropWhile (!·.goexit) with | [] => { c' with mode := .returning } | rest => { c' with mode := .panicking rest })
        | _ => c') ∧ c2.kind = c.kind := by
  obtain ⟨fn, tmps, todo, defers, mode, kind, ro⟩ := c'
  have hm := hc.mode
  simp only at hm ⊢
  unfold unpanic at h
  cases hcm : c.mode with
  | run => rw [hcm] at h hm; cases h; cases hm; exact ⟨hc, rfl⟩
  | returning => rw [hcm] at h hm; cases h; cases hm; exact ⟨hc, rfl⟩
  | panicking chain =>
    rw [hcm] at h hm
    cases hm with
    | panicking hch =>
      cases hch with
      | nil => cases h; exact ⟨hc, rfl⟩
      | cons r hv ht =>
        cases r with
        | false => cases h; exact ⟨hc, rfl⟩
        | true =>
          cases ht with
          | nil => cases h; exact ⟨hc.setMode .returning, rfl⟩
          | cons r2 hv2 ht2 => cases h
/-- The end of an activation. -/
theorem unw_ok (B : TbOk b) {orc : List Orc} {lo : Nat} {s : AS} {fr : Frame} {cs' : List Frame} {w : World} {s' : AS}
    (hr : HR w0 ρ s.h w) (hg : GlOk b ρ) (hl : lo ≤ s.h.next) (hf : FR b ρ lo s.h.next s.f fr) (hmode : s.f.mode ≠ .run) (hst : Stack b ρ base lo s.f.kind s.cs cs') (ha : s_unw b orc s = .go s') : Gets b w0 base (lone fr cs' w) s' := by
  obtain ⟨fn, tmps, td, defers, mode, kind, ro⟩ := fr
  have hm := hf.mode
  have hk := hf.kind
  have hd := hf.dfs
  simp only at hm hk hd
  have hmr : mode ≠ .run := by intro hh; subst hh; generalize hq : s.f.mode = q at hm; cases hm; exact hmode hq
  unfold s_unw at ha
  split at ha
  · -- the deferred calls of a loop
    rename_i c args ds hq
    rw [hq] at hd
    split at ha
    case h_2 => cases ha
    rename_i l hget
    cases ha
    cases hd with
    | cons h1 t1 =>
      rename_i d' ds'
      obtain ⟨tg, ar⟩ := d'
      have ht := h1.t
      simp only at ht
      cases ht with
      | col hL =>
        rename_i L
        obtain ⟨_, o', k1, k2⟩ := hr.obj hL hget
        cases k2 with
        | def1 hdl =>
          rename_i l'
          have hgo := run_getObj (P := b.P) k1 (by intro _ _ _ hh; cases hh)
          have hset := run_setObj (P := b.P) k1 (by intro _ _ _ hh; cases hh) (.deferred none)
          have hr2 := hr.putObj (o2 := .deferred none) (o2' := .deferred none) hL hget .def0
          exact ⟨_, cs', _, ⟨ρ, lo, hr2, hg, hl, hf.setDefers (hdl.append t1), hst⟩, m_collected hmr (by simp [Instr.takeDeferred, hgo, hset])⟩
  · -- a deferred call
    rename_i g cp args ds hq
    rw [hq] at hd
    split at ha
    case h_2 => cases ha
    rename_i x hx
    cases ha
    cases hd with
    | cons h1 t1 =>
      rename_i d' ds'
      obtain ⟨tg, ar⟩ := d'
      have ht := h1.t
      have hargs := h1.a
      simp only at ht hargs
      cases ht with
      | fn _ hcp =>
        rename_i cp'
        have hi : ∃ i, b.f g = some i := by
          unfold enterF at hx
          split at hx
          · rename_i i hi; exact ⟨i, hi⟩
          · cases hx
        obtain ⟨i, hi⟩ := hi
        have hen := B.en g i hi (ar ++ cp') w
        obtain ⟨e1, e2⟩ := enterF_ok (n := s.h.next) B (.inr rfl) hx (args' := ar ++ cp') (by simpa using hargs.append hcp)
        refine ⟨_, _ :: cs', w, ⟨ρ, s.h.next, hr, hg, Nat.le_refl _, e1, ?_⟩, m_deferred hmr hen⟩
        show Stack b ρ base s.h.next x.kind _ _
        rw [e2]
        exact .cons hl (hf.setDefers t1) (fun hh => by cases hh) hst
  · cases ha
  · -- none is left
    rename_i hq
    rw [hq] at hd
    cases hd
    cases hmd : s.f.mode with
    | run => exact absurd hmd hmode
    | panicking chain =>
      rw [hmd] at ha hm
      simp only at ha
      split at ha
      · rename_i c cs hcs
        cases ha
        cases hm with
        | panicking hch =>
          rw [hcs] at hst
          obtain ⟨lo2, c', cs2', rfl, hlo, hc, hsus, t⟩ := hst.cons_inv
          · refine ⟨_, cs2', w, ⟨ρ, lo2, hr, hg, Nat.le_trans hlo hl, (hc.mono (ExtN.refl _ _) hl).raise hch, ?_⟩, m_panicOut (noCatch hf.notCall)⟩
            show Stack b ρ base lo2 (Ev.raise c chain).kind cs cs2'
            rw [raise_kind]; exact t
      · cases ha
    | returning =>
      rw [hmd] at ha hm
      simp only at ha
      cases hm
      unfold s_ret at ha
      split at ha
      case h_2 => cases ha
      rename_i v hrd hfree hres
      obtain ⟨lg, g1, g2⟩ := hf.free hfree
      obtain ⟨f, f1, f2⟩ := hf.res hrd
      obtain ⟨v', r1, r2⟩ := resOf_ok B hr g1 g2 f2 hres
      have hfn : fn = s.f.id := hf.fn
      rw [← hfn] at f1
      split at ha
      · split at ha <;> cases ha
      · rename_i c cs hcs
        rw [hcs] at hst
        obtain ⟨lo2, c', cs2', rfl, hlo, hc, hsus, t⟩ := hst.cons_inv
        · split at ha
          · rename_i hkd
            cases ha
            rw [hkd] at hk hsus
            subst hk
            obtain ⟨s1, s2⟩ := hsus rfl
            refine ⟨_, cs2', w, ⟨ρ, lo2, hr, hg, Nat.le_trans hlo hl, (hc.mono (ExtN.refl _ _) hl).finish s1 r2, ?_⟩, m_return f1 r1⟩
            show Stack b ρ base lo2 (c.finish v).kind cs cs2'
            rw [finish_kind]; exact t
          · rename_i hkd
            split at ha
            · rename_i c2 hun
              cases ha
              rw [hkd] at hk
              subst hk
              obtain ⟨u1, u2⟩ := unpanic_ok (hc.mono (ExtN.refl _ _) hl) hun
              refine ⟨_, cs2', w, ⟨ρ, lo2, hr, hg, Nat.le_trans hlo hl, u1, ?_⟩, m_returnD f1 r1 rfl⟩
              show Stack b ρ base lo2 c2.kind cs cs2'
              rw [u2]; exact t
            · cases ha
          · cases ha
end
end Go.Ev
end
