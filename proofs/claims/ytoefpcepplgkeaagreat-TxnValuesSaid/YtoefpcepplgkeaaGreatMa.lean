/- A trie of numbers, for a reckoning by the kernel: by its recursor. The evaluator: an abstract machine for closed runs. Definitions alone. The relation between abstract and true values, and memory. -/
import Derived.Orders
import Derived.Deep.MidRow
import Derived.Lib.FrozenHead
section
set_option linter.unusedVariables false
namespace Go.Ev
open Go
noncomputable section
/-- A trie of numbers. -/
inductive T (α : Type) where
  | e
  | n (v : Option α) (l r : T α)
/-- What lies at a number. -/
def T.get {α : Type} (t : T α) : Nat → Option α :=
  T.rec (motive := fun _ => Nat → Option α) (fun _ => none)
    (fun v _ _ gl gr i => Nat.rec (motive := fun _ => Option α) v (fun j _ => Bool.rec (gr (j / 2)) (gl (j / 2)) (Nat.beq (j % 2) 0)) i) t
/-- A number's own branch (in an empty trie). -/
def T.one {α : Type} (x : α) (k : Nat) : Nat → T α :=
  Nat.rec (motive := fun _ => Nat → T α) (fun _ => .e)
    (fun _ one i => Nat.rec (motive := fun _ => T α) (.n (some x) .e .e) (fun j _ => Bool.rec (.n none .e (one (j / 2))) (.n none (one (j / 2)) .e) (Nat.beq (j % 2) 0)) i) k
def T.set {α : Type} (t : T α) (x : α) : Nat → T α :=
  T.rec (motive := fun _ => Nat → T α) (fun i => T.one x (i + 1) i)
    (fun v l r sl sr i => Nat.rec (motive := fun _ => T α) (.n (some x) l r) (fun j _ => Bool.rec (.n v l (sr (j / 2))) (.n v (sl (j / 2)) r) (Nat.beq (j % 2) 0)) i) t
/-- A law of every entry. -/
def T.All {α : Type} (p : Nat → α → Prop) : T α → (Nat → Nat) → Prop
  | .e, _ => True
  | .n v l r, k => (match v with | some x => p (k 0) x | none => True) ∧ T.All p l (fun i => k (2 * i + 1)) ∧ T.All p r (fun i => k (2 * i + 2))
end
section
variable {α : Type}
theorem T.get_e (i : Nat) : (T.e : T α).get i = none := rfl
theorem T.get_0 (v : Option α) (l r : T α) : (T.n v l r).get 0 = v := rfl
theorem T.get_l (v : Option α) (l r : T α) (j : Nat) : (T.n v l r).get (2 * j + 1) = l.get j := by
  show Bool.rec (motive := fun _ => Option α) (r.get ((2 * j) / 2)) (l.get ((2 * j) / 2)) (Nat.beq ((2 * j) % 2) 0) = _
  have h1 : (2 * j) % 2 = 0 := by omega
  have h2 : (2 * j) / 2 = j := by omega
  rw [h1, h2]; rfl
theorem T.get_r (v : Option α) (l r : T α) (j : Nat) : (T.n v l r).get (2 * j + 2) = r.get j := by
  show Bool.rec (motive := fun _ => Option α) (r.get ((2 * j + 1) / 2)) (l.get ((2 * j + 1) / 2)) (Nat.beq ((2 * j + 1) % 2) 0) = _
  have h1 : (2 * j + 1) % 2 = 1 := by omega
  have h2 : (2 * j + 1) / 2 = j := by omega
  rw [h1, h2]; rfl
theorem T.one_0 (x : α) (k : Nat) : T.one x (k + 1) 0 = .n (some x) .e .e := rfl
theorem T.one_l (x : α) (k j : Nat) : T.one x (k + 1) (2 * j + 1) = .n none (T.one x k j) .e := by
  show Bool.rec (motive := fun _ => T α) (T.n none .e (T.one x k ((2 * j) / 2))) (T.n none (T.one x k ((2 * j) / 2)) .e) (Nat.beq ((2 * j) % 2) 0) = _
  have h1 : (2 * j) % 2 = 0 := by omega
  have h2 : (2 * j) / 2 = j := by omega
  rw [h1, h2]; rfl
theorem T.one_r (x : α) (k j : Nat) : T.one x (k + 1) (2 * j + 2) = .n none .e (T.one x k j) := by
  show Bool.rec (motive := fun _ => T α) (T.n none .e (T.one x k ((2 * j + 1) / 2))) (T.n none (T.one x k ((2 * j + 1) / 2)) .e) (Nat.beq ((2 * j + 1) % 2) 0) = _
  have h1 : (2 * j + 1) % 2 = 1 := by omega
  have h2 : (2 * j + 1) / 2 = j := by omega
  rw [h1, h2]; rfl
theorem T.set_e (x : α) (i : Nat) : (T.e : T α).set x i = T.one x (i + 1) i := rfl
theorem T.set_0 (x : α) (v : Option α) (l r : T α) : (T.n v l r).set x 0 = .n (some x) l r := rfl
theorem T.set_l (x : α) (v : Option α) (l r : T α) (j : Nat) : (T.n v l r).set x (2 * j + 1) = .n v (l.set x j) r := by
  show Bool.rec (motive := fun _ => T α) (T.n v l (r.set x ((2 * j) / 2))) (T.n v (l.set x ((2 * j) / 2)) r) (Nat.beq ((2 * j) % 2) 0) = _
  have h1 : (2 * j) % 2 = 0 := by omega
  have h2 : (2 * j) / 2 = j := by omega
  rw [h1, h2]; rfl
theorem T.set_r (x : α) (v : Option α) (l r : T α) (j : Nat) : (T.n v l r).set x (2 * j + 2) = .n v l (r.set x j) := by
  show Bool.rec (motive := fun _ => T α) (T.n v l (r.set x ((2 * j + 1) / 2))) (T.n v (l.set x ((2 * j + 1) / 2)) r) (Nat.beq ((2 * j + 1) % 2) 0) = _
  have h1 : (2 * j + 1) % 2 = 1 := by omega
  have h2 : (2 * j + 1) / 2 = j := by omega
  rw [h1, h2]; rfl
theorem nat_cases (i : Nat) : i = 0 ∨ (∃ j, i = 2 * j + 1) ∨ (∃ j, i = 2 * j + 2) := by
  rcases Nat.lt_or_ge 0 i with h | h
  · rcases Nat.mod_two_eq_zero_or_one i with h' | h'
    · exact .inr (.inr ⟨i / 2 - 1, by omega⟩)
    · exact .inr (.inl ⟨i / 2, by omega⟩)
  · exact .inl (by omega)
theorem T.get_one (x : α) : ∀ (k i j : Nat), i < k → (T.one x k i).get j = if j = i then some x else none
  | 0, i, j, h => by omega
  | k + 1, i, j, h => by
    rcases nat_cases i with rfl | ⟨i', rfl⟩ | ⟨i', rfl⟩ <;> rcases nat_cases j with rfl | ⟨j', rfl⟩ | ⟨j', rfl⟩
    all_goals simp only [T.one_0, T.one_l, T.one_r, T.get_0, T.get_l, T.get_r, T.get_e]
    all_goals (try rw [T.get_one x k i' j' (by omega)])
    all_goals (try (have h2 : ∀ a b : Nat, (2 * a + 1 = 2 * b + 1) = (a = b) := by intros; apply propext; omega))
    all_goals (try (have h3 : ∀ a b : Nat, (2 * a + 2 = 2 * b + 2) = (a = b) := by intros; apply propext; omega))
    all_goals first
      | rfl
      | (rw [if_neg (by omega)])
      | (simp only [h2, h3])
theorem T.get_set (x : α) : ∀ (t : T α) (i j : Nat), (t.set x i).get j = if j = i then some x else t.get j
  | .e, i, j => by rw [T.set_e, T.get_one x _ _ _ (by omega), T.get_e]
  | .n v l r, i, j => by
    have h2 : ∀ a b : Nat, (2 * a + 1 = 2 * b + 1) = (a = b) := by intros; apply propext; omega
    have h3 : ∀ a b : Nat, (2 * a + 2 = 2 * b + 2) = (a = b) := by intros; apply propext; omega
    rcases nat_cases i with rfl | ⟨i', rfl⟩ | ⟨i', rfl⟩ <;> rcases nat_cases j with rfl | ⟨j', rfl⟩ | ⟨j', rfl⟩
    all_goals simp only [T.set_0, T.set_l, T.set_r, T.get_0, T.get_l, T.get_r]
    all_goals (try rw [T.get_set x _ i' j'])
    all_goals first
      | rfl
      | (rw [if_neg (by omega)])
      | (simp only [h2, h3])
theorem T.all_get {p : Nat → α → Prop} : ∀ {t : T α} {k : Nat → Nat}, T.All p t k → ∀ {i : Nat} {x : α}, t.get i = some x → p (k i) x
  | .e, _, _, i, x, hx => by simp [T.get_e] at hx
  | .n v l r, k, ⟨h0, hl, hr⟩, i, x, hx => by
    rcases nat_cases i with rfl | ⟨i', rfl⟩ | ⟨i', rfl⟩
    · rw [T.get_0] at hx; subst hx; exact h0
    · rw [T.get_l] at hx; exact T.all_get hl hx
    · rw [T.get_r] at hx; exact T.all_get hr hx
end
end Go.Ev
end

section
set_option linter.unusedVariables false
namespace Go.Ev
open Go
noncomputable section
/-- A capacity from here on: not known; at least what it is more. -/
def UNK : Nat := 1180591620717411303424
/-- A value of which nothing is known. -/
def junk : Value := .complex .f32 0 0
/-- Values without addresses, at their head. -/
def flat1 : Value → Bool
  | .bool _ | .int _ _ | .float _ _ | .string _ | .pointer none | .slice none _ _ | .map none | .nilFunc | .nilIface => true
  | _ => false
def flatN : Nat → Value → Bool
  | 0, _ => false
  | n + 1, .iface _ v => flatN n v
  | n + 1, .agg cs => cs.toList.all (flatN n)
  | n + 1, .tuple vs => vs.toList.all (flatN n)
  | _ + 1, .func (.func _) a c => match a.toList, c.toList with
    | [], [] => true
    | _, _ => false
  | _ + 1, v => flat1 v
def flat (v : Value) : Bool := flatN 8 v
/-- Surely the same. -/
def eqL (f : Value → Value → Bool) : List Value → List Value → Bool
  | [], [] => true
  | x :: r, y :: s => f x y && eqL f r s
  | _, _ => false
def eqN : Nat → Value → Value → Bool
  | 0, _, _ => false
  | _ + 1, .bool a, .bool b => a == b
  | _ + 1, .int j a, .int k b => decide (j = k) && decide (a = b)
  | _ + 1, .float j a, .float k b => decide (j = k) && Nat.beq a b
  | _ + 1, .string a, .string b => decide (a.data.toList = b.data.toList)
  | _ + 1, .pointer a, .pointer b => decide (a = b)
  | _ + 1, .slice a n c, .slice b m d => decide (a = b) && Nat.beq n m && Nat.beq c d
  | _ + 1, .map a, .map b => decide (a = b)
  | _ + 1, .nilFunc, .nilFunc => true
  | _ + 1, .nilIface, .nilIface => true
  | n + 1, .iface t v, .iface u w => Nat.beq t u && eqN n v w
  | n + 1, .agg a, .agg b => eqL (eqN n) a.toList b.toList
  | n + 1, .tuple a, .tuple b => eqL (eqN n) a.toList b.toList
  | n + 1, .func (.func f) a c, .func (.func g) b d => Nat.beq f g && eqL (eqN n) a.toList b.toList && eqL (eqN n) c.toList d.toList
  | _ + 1, _, _ => false
def eqV (v w : Value) : Bool := eqN 8 v w

/-- A row of cells, of the elements' type e. st is the elements' size if append made it (0: no append goes beyond its end). Below k the cells may be shared with those of the row par from an offset on. sp: it is not written any more (an append has gone beyond its end, or a string shares it). -/
structure Row where
  c : List Value
  e : TypeId
  st : Nat
  k : Nat
  par : Option (Nat × Nat)
  sp : Bool
inductive AObj where
  | map (es : List MapEntry) (clock : Nat)
  | mapIter (m : Option Nat) (since : Nat) (seen : List Nat) (stepped : Nat)
  | strIter (s : ByteArray) (pos : Nat)
  | loop (state : LoopState) (pending : Option Code) (fn : FuncId) (nt : Nat) (tmps : T Value) (params : List Tmp) (assign body : Code) (defers : Nat)
  | deferred (calls : Option (List Deferred))
inductive AB where
  | row (r : Row)
  | obj (o : AObj)
structure H where
  t : T AB
  next : Nat
def H.get (h : H) (i : Nat) : Option AB := h.t.get i
def H.put (h : H) (i : Nat) (b : AB) : H := ⟨h.t.set b i, h.next⟩
def H.push (h : H) (b : AB) : H := ⟨h.t.set b h.next, h.next + 1⟩
def lget : List Value → Nat → Option Value
  | [], _ => none
  | x :: _, 0 => some x
  | _ :: r, i + 1 => lget r i
def ldrop : List Value → Nat → List Value
  | l, 0 => l
  | [], _ + 1 => []
  | _ :: r, i + 1 => ldrop r i
/-- The first n, if there are as many. -/
def ltake : List Value → Nat → Option (List Value)
  | _, 0 => some []
  | [], _ + 1 => none
  | x :: r, i + 1 => match ltake r i with
    | some l => some (x :: l)
    | none => none
/-- n put at the head, if there are as many. -/
def lover : List Value → List Value → Option (List Value)
  | l, [] => some l
  | [], _ :: _ => none
  | _ :: r, v :: vs => match lover r vs with
    | some l => some (v :: l)
    | none => none
def lput : List Value → Nat → List Value → Option (List Value)
  | l, 0, vs => lover l vs
  | [], _ + 1, _ => none
  | x :: r, i + 1, vs => match lput r i vs with
    | some l => some (x :: l)
    | none => none
/-- A value of one cell, of which something is known. -/
def okc : Value → Bool
  | .agg _ | .tuple _ | .complex _ _ _ => false
  | _ => true
def allOk : List Value → Bool
  | [] => true
  | v :: r => match okc v with
    | true => allOk r
    | false => false
def repl (z : List Value) : Nat → List Value
  | 0 => []
  | n + 1 => z ++ repl z n

/-- A type as the evaluator needs it: its underlying description, how many cells, whether it is a struct or an array, its zero value's cells, how many bytes; its methods whose receivers are handed on as they are. -/
structure TI where
  d : TypeDesc
  size : Nat
  agg : Bool
  zero : List Value
  bytes : Nat
  ms : List (String × FuncId)
structure FI where
  body : Code
  nt : Nat
  res : List ResultVar
/-- Functions without a body whose work is on memory. -/
inductive Ex where
  | mapsClone
  | ident
structure Tb where
  P : Program
  fn : T FI
  ty : T TI
  ex : List (FuncId × Ex)
  gl : Nat
def findX : List (FuncId × Ex) → FuncId → Option Ex
  | [], _ => none
  | (g, x) :: r, f => match Nat.beq g f with
    | true => some x
    | false => findX r f
def Tb.f (b : Tb) (f : FuncId) : Option FI := b.fn.get f
def Tb.i (b : Tb) (t : TypeId) : Option TI := b.ty.get t

/-! ### Memory -/
def rowAt (h : H) (r : Nat) : Option Row := match h.get r with
  | some (.row x) => some x
  | _ => none
def cellsAt (h : H) (a : Addr) (n : Nat) : Option (List Value) := match rowAt h a.block with
  | some x => ltake (ldrop x.c a.off) n
  | none => none
def loadAs (h : H) (a : Addr) (i : TI) : Option Value := match i.agg with
  | true => match cellsAt h a i.size with
    | some l => some (.agg l.toArray)
    | none => none
  | false => match rowAt h a.block with
    | some x => lget x.c a.off
    | none => none
def upPar (y : Row) (o : Nat) : Option (Nat × Nat) := match y.par with
  | none => none
  | some (q, o') => some (q, o' + o)
/-- The rows that may share the cell at an offset are given up. -/
def unshare : Nat → H → Nat → Row → Nat → Option (H × Row)
  | 0, _, _, _, _ => none
  | n + 1, h, r, x, off => match Nat.ble x.k off with
    | true => some (h, x)
    | false => match x.par with
      | none => unshare n (h.put r (.row { x with k := 0 })) r { x with k := 0 } off
      | some (p, o) => match rowAt h p, Nat.beq p r with
        | some y, false =>
          let x' : Row := { x with k := Nat.min x.k (y.k - o), par := upPar y o }
          unshare n ((h.put p (.row { y with c := [], sp := true, par := none })).put r (.row x')) r x' off
        | _, _ => none
def storeAs (h : H) (a : Addr) (l : List Value) : Option H := match rowAt h a.block with
  | some x => match x.sp, allOk l, unshare 1000 h a.block x a.off with
    | false, true, some (h, x) => match lput x.c a.off l with
      | some c => some (h.put a.block (.row { x with c }))
      | none => none
    | _, _, _ => none
  | none => none
/-- The zero value's cells, or a cell's. -/
def zeroOf (i : TI) : Option Value := match i.agg with
  | true => some (.agg i.zero.toArray)
  | false => match i.zero with
    | [v] => some v
    | _ => none

/-! ### Activations -/
inductive AI where
  | code (c : Code)
  | inBlock (id : Nat)
  | inLoop (body : Code)
  | inScope (body : Code)
  /-- a region in order: what has been done are so many operations; the rest -/
  | reg (ops : Array Oper) (i : Nat) (rest : List Oper)
  /-- a region that draws: what has been done (a mask); what of it may not have been done yet; what is being done -/
  | dreg (ops : Array Oper) (done : Nat) (lag : List Nat) (now : Option (Nat × Oper))
  | inRange (l : Nat)
  | endRange (l : Nat)
  | begin
structure AF where
  id : FuncId
  nt : Nat
  res : List ResultVar
  tmps : T Value
  todo : List AI
  defers : List Deferred
  mode : FrameMode
  kind : CallKind
  round : Option Nat
  gl : Nat
def AF.tmp (f : AF) (t : Nat) : Value := match f.tmps.get t with
  | some v => v
  | none => junk
def AF.eval (f : AF) : Operand → Value
  | .tmp t => f.tmp t
  | .const v => match flat1 v with
    | true => v
    | false => match flat v with
      | true => v
      | false => junk
  | .global g => match f.gl.testBit g with
    | true => .pointer (some ⟨g, 0, none⟩)
    | false => junk
  | .func k => .func (.func k) #[] #[]
def AF.put (f : AF) (d : Option Tmp) (v : Value) : AF := match d with
  | some d => match Nat.blt d f.nt with
    | true => { f with tmps := f.tmps.set v d }
    | false => f
  | none => f
def setAll : T Value → Nat → List Value → T Value
  | t, _, [] => t
  | t, i, x :: r => setAll (t.set x i) (i + 1) r
/-- Whether an operation is wanted (if that is known). -/
def wantedT (f : AF) (ops : Array Oper) (o : Oper) : Option Bool := match o.guard with
  | none => some true
  | some (j, w) => match ops[j]? with
    | some oj => match oj.dst with
      | some d => match f.tmps.get d with
        | some (.bool true) => some w
        | some (.bool false) => some !w
        | some (.complex _ _ _) => none
        | some _ => some false
        | none => none
      | none => some false
    | none => some false
/-- An operation has ended with a value. -/
def AF.finish (f : AF) (v : Value) : AF := match f.todo with
  | .reg ops i (o :: r) :: k => { f.put o.dst v with todo := .reg ops (i + 1) r :: k }
  | .dreg ops done lag (some (i, o)) :: k => { f.put o.dst v with todo := .dreg ops done lag none :: k }
  | .inRange l :: k => { f with todo := .endRange l :: k }
  | .begin :: k => { f with todo := k }
  | _ => f

/-! ### Operations -/
/-- What an operation does. -/
inductive Ro where
  | val (v : Value) (h : H)
  | skip (h : H)
  | enter (g : FuncId) (args : List Value) (h : H)
  | defer (d : Deferred) (h : H)
  | recov (h : H)
  | round (l : Nat) (g : FuncId) (nt : Nat) (tmps : T Value) (assign body : Code) (h : H)
  | panic (v : Value) (h : H)
  | bad
/-- The model's own reckoning, where it looks at no memory. -/
def prun {α : Type} (P : Program) : Sem α → Option (Except Value α)
  | .pure a => some (.ok a)
  | .program k => prun P (k P)
  | .mark (.extern _) k => prun P k
  | .halt (.panic v) => some (.error v)
  | _ => none
/-- An operation's kind: without an effect (it reads); laying one row; or other. -/
inductive Cls where
  | pure (p : Tb → AF → Oper → H → Option Value)
  | lay (l : Tb → AF → Oper → H → Option (List Value × TypeId × Option (Nat × Nat)))
  | eff (e : Tb → AF → Oper → H → Ro)
abbrev PuR : Type := Tb → AF → Oper → H → Option Value
abbrev LaR : Type := Tb → AF → Oper → H → Option (List Value × TypeId × Option (Nat × Nat))
abbrev EfR : Type := Tb → AF → Oper → H → Ro
/-- The general one: operands without addresses. -/
def flatOps (f : AF) : List Operand → Bool
  | [] => true
  | x :: r => flat (f.eval x) && flatOps f r
def pu_gen : PuR := fun b f o h => match flatOps f o.op.operands.toList with
  | true => match prun b.P (execOp f.eval o) with
    | some (.ok (.value v)) => match flat v with
      | true => some v
      | false => none
    | _ => none
  | false => none
def ef_gen : EfR := fun b f o h => match flatOps f o.op.operands.toList with
  | true => match prun b.P (execOp f.eval o) with
    | some (.ok (.value v)) => match flat v with
      | true => .val v h
      | false => .bad
    | some (.ok .skip) => .skip h
    | some (.error v) => match flat v with
      | true => .panic v h
      | false => .bad
    | _ => .bad
  | false => .bad
def pu_move (x : Operand) : PuR := fun b f o h => some (f.eval x)
def pu_pick (c x y : Operand) : PuR := fun b f o h => match f.eval c with
  | .bool true => some (f.eval x)
  | .bool false => some (f.eval y)
  | _ => none
def pu_load (t : TypeId) (a : Operand) : PuR := fun b f o h => match f.eval a, b.i t with
  | .pointer (some a), some i => loadAs h a i
  | _, _ => none
def ef_store (t : TypeId) (a x : Operand) : EfR := fun b f o h => match f.eval a, b.i t with
  | .pointer (some a), some i =>
    let l := (f.eval x).cells.toList
    match Nat.beq l.length i.size with
    | true => match storeAs h a l with
      | some h => .skip h
      | none => .bad
    | false => .bad
  | _, _ => .bad
def la_alloc (e : TypeId) : LaR := fun b f o h => match b.i e with
  | some i => some (i.zero, e, none)
  | none => none
def la_box (e : TypeId) (x : Operand) : LaR := fun b f o h => match allOk (f.eval x).cells.toList with
  | true => some ((f.eval x).cells.toList, e, none)
  | false => none
def fieldOf : List Field → Nat → Option Field
  | [], _ => none
  | f :: _, 0 => some f
  | _ :: r, i + 1 => fieldOf r i
def pu_fieldAddr (s : TypeId) (x : Operand) (j : Nat) : PuR := fun b f o h => match f.eval x, b.i s with
  | .pointer (some a), some ⟨.struct fs, _, _, _, _, _⟩ => match fieldOf fs.toList j with
    | some fd => match b.i fd.type with
      | some i => match i.size with
        | 0 => none
        | _ + 1 => some (.pointer (some ⟨a.block, a.off + fd.offset, none⟩))
      | none => none
    | none => none
  | _, _ => none
def partAs (cs : List Value) (off : Nat) (i : TI) : Option Value := match i.agg with
  | true => match ltake (ldrop cs off) i.size with
    | some l => some (.agg l.toArray)
    | none => none
  | false => lget cs off
def pu_field (s : TypeId) (x : Operand) (j : Nat) : PuR := fun b f o h => match f.eval x, b.i s with
  | .agg cs, some ⟨.struct fs, _, _, _, _, _⟩ => match fieldOf fs.toList j with
    | some fd => match b.i fd.type with
      | some i => partAs cs.toList fd.offset i
      | none => none
    | none => none
  | _, _ => none
def pu_indexAddr (t : TypeId) (x ix : Operand) : PuR := fun b f o h => match f.eval ix, b.i t, f.eval x with
  | .int _ i, some ⟨.slice e, _, _, _, _, _⟩, .slice (some a) n _ => match b.i e with
    | some ti => match decide (0 ≤ i), decide (i < n) with
      | true, true => some (.pointer (some ⟨a.block, a.off + i.toNat * ti.size, none⟩))
      | _, _ => none
    | none => none
  | .int _ i, some ⟨.array n e, _, _, _, _, _⟩, .pointer (some a) => match b.i e with
    | some ti => match decide (0 ≤ i), decide (i < n) with
      | true, true => some (.pointer (some ⟨a.block, a.off + i.toNat * ti.size, none⟩))
      | _, _ => none
    | none => none
  | _, _, _ => none
def pu_index (t : TypeId) (x ix : Operand) : PuR := fun b f o h => match f.eval ix, b.i t, f.eval x with
  | .int _ i, some ⟨.array n e, _, _, _, _, _⟩, .agg cs => match b.i e with
    | some ti => match decide (0 ≤ i), decide (i < n) with
      | true, true => partAs cs.toList (i.toNat * ti.size) ti
      | _, _ => none
    | none => none
  | .int _ i, some ⟨.string, _, _, _, _, _⟩, .string s => match decide (0 ≤ i) with
    | true => match s.data.toList[i.toNat]? with
      | some c => some (.int .u8 c.toNat)
      | none => none
    | false => none
  | _, _, _ => none
def fillC (place : Nat → Option (Nat × Nat)) : List Value → List (Nat × Value) → Option (List Value)
  | c, [] => some c
  | c, (i, v) :: r => match place i with
    | some (off, sz) =>
      let l := v.cells.toList
      match Nat.beq l.length sz, allOk l with
      | true, true => match lput c off l with
        | some c => fillC place c r
        | none => none
      | _, _ => none
    | none => none
def placeF (b : Tb) (fs : List Field) (j : Nat) : Option (Nat × Nat) := match fieldOf fs j with
  | some fd => match b.i fd.type with
    | some i => some (fd.offset, i.size)
    | none => none
  | none => none
/-- All fields' types are in the table. -/
def fieldsIn (b : Tb) : List Field → Bool
  | [] => true
  | f :: r => match b.i f.type with
    | some _ => fieldsIn b r
    | none => false
def evalParts (f : AF) : List (Nat × Operand) → List (Nat × Value)
  | [] => []
  | (i, x) :: r => (i, f.eval x) :: evalParts f r
def pu_build (t : TypeId) (parts : Array (Nat × Operand)) : PuR := fun b f o h => match b.i t with
  | some ⟨.struct fs, _, _, z, _, _⟩ => match fieldsIn b fs.toList with
    | true => match fillC (placeF b fs.toList) z (evalParts f parts.toList) with
      | some l => some (.agg l.toArray)
      | none => none
    | false => none
  | some ⟨.array _ e, _, _, z, _, _⟩ => match b.i e with
    | some i => match fillC (fun j => some (j * i.size, i.size)) z (evalParts f parts.toList) with
      | some l => some (.agg l.toArray)
      | none => none
    | none => none
  | _ => none
def la_buildSlice (t : TypeId) (n : Nat) (ps : Array (Nat × Operand)) : LaR := fun b f o h => match b.i t with
  | some ⟨.slice e, _, _, _, _, _⟩ => match b.i e with
    | some i => match Nat.ble (n * i.size) 16777216, i.size with
      | true, _ + 1 => match fillC (fun j => some (j * i.size, i.size)) (repl i.zero n) (evalParts f ps.toList) with
        | some l => some (l, e, some (n, n))
        | none => none
      | _, _ => none
    | none => none
  | _ => none
def la_makeSlice (t : TypeId) (ln cp : Operand) : LaR := fun b f o h => match b.i t, f.eval ln, f.eval cp with
  | some ⟨.slice e, _, _, _, _, _⟩, .int _ n, .int _ c => match b.i e with
    | some i => match decide (0 ≤ n), decide (n ≤ c), decide (c.toNat * (i.bytes + 1) ≤ 16777216), i.size with
      | true, true, true, _ + 1 => some (repl i.zero c.toNat, e, some (n.toNat, c.toNat))
      | _, _, _, _ => none
    | none => none
  | _, _, _ => none
def intOp (op : BinOp) (k : IntKind) (a b : Int) : Option Value := match op with
  | .add => some (.int k (k.wrap (a + b)))
  | .sub => some (.int k (k.wrap (a - b)))
  | .mul => some (.int k (k.wrap (a * b)))
  | .eql => some (.bool (a == b))
  | .neq => some (.bool (!(a == b)))
  | .lss => some (.bool (decide (a < b)))
  | .leq => some (.bool (decide (a ≤ b)))
  | .gtr => some (.bool (decide (b < a)))
  | .geq => some (.bool (decide (b ≤ a)))
  | _ => none
/-- Equality where an address is not looked at. -/
def eqOf : TypeDesc → Value → Value → Option Bool
  | .pointer _, .pointer none, .pointer none => some true
  | .pointer _, .pointer none, .pointer (some _) => some false
  | .pointer _, .pointer (some _), .pointer none => some false
  | .slice _, .slice none _ _, .slice none _ _ => some true
  | .slice _, .slice none _ _, .slice (some _) _ _ => some false
  | .slice _, .slice (some _) _ _, .slice none _ _ => some false
  | .map _ _, .map none, .map none => some true
  | .map _ _, .map none, .map (some _) => some false
  | .map _ _, .map (some _), .map none => some false
  | .func _ _ _, .nilFunc, .nilFunc => some true
  | .func _ _ _, .nilFunc, .func _ _ _ => some false
  | .func _ _ _, .func _ _ _, .nilFunc => some false
  | .interface _, .nilIface, .iface _ _ => some false
  | .interface _, .iface _ _, .nilIface => some false
  | _, _, _ => none
/-- Two addresses in one row. -/
def eqAddr (b : Tb) (d : TypeDesc) (x y : Value) : Option Bool := match d, x, y with
  | .pointer e, .pointer (some a), .pointer (some c) => match b.i e, Nat.beq a.block c.block with
    | some i, true => match i.size with
      | 0 => none
      | _ + 1 => some (Nat.beq a.off c.off)
    | _, _ => none
  | _, _, _ => none
def eqFlat (b : Tb) (f : AF) (o : Oper) (op : BinOp) (t : TypeId) (x y : Operand) (h : H) : Option Value :=
  match op, b.i t with
  | .eql, some i => match eqOf i.d (f.eval x) (f.eval y) with
    | some r => some (.bool r)
    | none => match eqAddr b i.d (f.eval x) (f.eval y) with
      | some r => some (.bool r)
      | none => pu_gen b f o h
  | .neq, some i => match eqOf i.d (f.eval x) (f.eval y) with
    | some r => some (.bool !r)
    | none => match eqAddr b i.d (f.eval x) (f.eval y) with
      | some r => some (.bool !r)
      | none => pu_gen b f o h
  | _, _ => pu_gen b f o h
def pu_binOp (op : BinOp) (t : TypeId) (x y : Operand) : PuR := fun b f o h => match f.eval x, f.eval y with
  | .int j a, .int k c => match decide (j = k), intOp op j a c with
    | true, some v => some v
    | _, _ => pu_gen b f o h
  | _, _ => eqFlat b f o op t x y h
def pu_extract (x : Operand) (j : Nat) : PuR := fun b f o h => match f.eval x with
  | .tuple vs => lget vs.toList j
  | _ => none
def pu_nilCheck (x : Operand) : PuR := fun b f o h => match f.eval x with
  | .pointer (some a) => some (.pointer (some a))
  | .func (.func g) a c => some (.func (.func g) a c)
  | _ => none
def pu_makeFunc (fn : Fn) (a c : Array Operand) : PuR := fun b f o h => match fn with
  | .func g => some (.func (.func g) (a.toList.map f.eval).toArray (c.toList.map f.eval).toArray)
  | _ => none
def pu_unOp (u : UnOp) (x : Operand) : PuR := fun b f o h => match u, f.eval x with
  | .not, .bool true => some (.bool false)
  | .not, .bool false => some (.bool true)
  | _, _ => pu_gen b f o h
def boundN (v : Option Value) (z m : Nat) : Option Nat := match v with
  | none => some z
  | some (.int _ k) => match decide (0 ≤ k), Nat.ble k.toNat m with
    | true, true => some k.toNat
    | _, _ => none
  | _ => none
/-- x[low:high] where the capacity is known, or not. -/
def aslice (h : H) (size : Nat) (a : Addr) (n cap : Nat) (low high : Option Value) : Option Value :=
  match Nat.blt cap UNK with
  | true => match boundN high n cap with
    | some hi => match boundN low 0 hi with
      | some lo => some (.slice (some (match Nat.beq cap lo with | true => a | false => ⟨a.block, a.off + lo * size, none⟩)) (hi - lo) (cap - lo))
      | none => none
    | none => none
  | false => match boundN high n (cap - UNK) with
    | some hi => match boundN low 0 hi with
      | some lo => match rowAt h a.block with
        | some x => match Nat.beq x.st size with
          | true => some (.slice (some ⟨a.block, a.off + lo * size, none⟩) (hi - lo) (cap - lo))
          | false => none
        | none => none
      | none => none
    | none => none
def aslice3 (size : Nat) (a : Addr) (n cap : Nat) (low high : Option Value) (mx : Value) : Option Value :=
  match boundN (some mx) 0 (match Nat.blt cap UNK with | true => cap | false => cap - UNK) with
  | some 0 => none
  | some (m + 1) => match high, Nat.blt (m + 1) UNK with
    | none, _ => none
    | some _, false => none
    | some hv, true => match boundN (some hv) 0 (m + 1) with
      | some hi => match boundN low 0 hi with
        | some lo => some (.slice (some (match Nat.beq (m + 1) lo with | true => a | false => ⟨a.block, a.off + lo * size, none⟩)) (hi - lo) (m + 1 - lo))
        | none => none
      | none => none
  | none => none
def oeval (f : AF) : Option Operand → Option Value
  | none => none
  | some x => some (f.eval x)
def pu_slice (t : TypeId) (x : Operand) (lo hi mx : Option Operand) : PuR := fun b f o h => match b.i t, f.eval x with
  | some ⟨.slice e, _, _, _, _, _⟩, .slice (some a) n c => match b.i e with
    | some i => match i.size with
      | 0 => none
      | _ + 1 => match mx with
        | none => aslice h i.size a n c (oeval f lo) (oeval f hi)
        | some m => aslice3 i.size a n c (oeval f lo) (oeval f hi) (f.eval m)
    | none => none
  | some ⟨.array k e, _, _, _, _, _⟩, .pointer (some a) => match b.i e with
    | some i => match i.size, Nat.blt k UNK with
      | _ + 1, true => match mx with
        | none => aslice h i.size a k k (oeval f lo) (oeval f hi)
        | some m => none
      | _, _ => none
    | none => none
  | _, _ => pu_gen b f o h
/-- What append appends: the cells, how many elements. -/
def appended (b : Tb) (tx : TypeId) (x : Value) (h : H) (size : Nat) : Option (List Value × Nat) :=
  match b.i tx, x with
  | some ⟨.slice _, _, _, _, _, _⟩, .slice none n _ => match n with
    | 0 => some ([], 0)
    | _ + 1 => none
  | some ⟨.slice _, _, _, _, _, _⟩, .slice (some a) m _ => match m with
    | 0 => some ([], 0)
    | m + 1 => match cellsAt h a ((m + 1) * size) with
      | some l => some (l, m + 1)
      | none => none
  | some ⟨.string, _, _, _, _, _⟩, .string s => match Nat.beq size 1 with
    | true => some (s.data.toList.map fun b => .int .u8 b.toNat, s.data.toList.length)
    | false => none
  | _, _ => none
def okRoom (n bytes : Nat) : Bool := match bytes with
  | 0 => false
  | _ + 1 => Nat.ble ((2 * n + 1024) * bytes) 140737488355328
def aappend (b : Tb) (st tx : TypeId) (s x : Value) (h : H) : Option (Value × H) :=
  match s, b.i st with
  | .slice base n cap, some ⟨.slice elem, _, _, _, _, _⟩ => match b.i elem with
    | some i => match i.size with
      | 0 => none
      | size' + 1 => match appended b tx x h (size' + 1) with
        | none => none
        | some (new, m) => match okRoom (n + m) i.bytes with
          | false => none
          | true => match Nat.ble (n + m) (match Nat.blt cap UNK with | true => cap | false => cap - UNK) with
            | true => match base with
              | none => match m with
                | 0 => some (.slice none n cap, h)
                | _ + 1 => none
              | some a => match m with
                | 0 => some (.slice (some a) n cap, h)
                | m + 1 => match storeAs h ⟨a.block, a.off + n * (size' + 1), none⟩ new with
                  | some h => some (.slice (some a) (n + (m + 1)) cap, h)
                  | none => none
            | false => match base with
              | none => match n, Nat.blt cap UNK with
                | 0, true => some (.slice (some ⟨h.next, 0, none⟩) m (UNK + m), h.push (.row ⟨new, elem, size' + 1, 0, none, false⟩))
                | _, _ => none
              | some a => match rowAt h a.block with
                | none => none
                | some r => match ltake (ldrop r.c a.off) (n * (size' + 1)) with
                  | none => none
                  | some old => match Nat.blt cap UNK with
                    | true => some (.slice (some ⟨h.next, 0, none⟩) (n + m) (UNK + (n + m)), h.push (.row ⟨old ++ new, elem, size' + 1, 0, none, false⟩))
                    | false => match Nat.beq (a.off + n * (size' + 1)) r.c.length, Nat.beq r.st (size' + 1), r.sp, Nat.beq r.e elem with
                      | true, true, false, true => some (.slice (some ⟨h.next, 0, none⟩) (n + m) (UNK + (n + m)),
                          (h.put a.block (.row { r with sp := true })).push (.row ⟨old ++ new, r.e, size' + 1, n * (size' + 1), some (a.block, a.off), false⟩))
                      | _, _, _, _ => none
    | none => none
  | _, _ => none
/-- append(nil, make([]T, n)...). -/
def zerosNil (b : Tb) (st tx : TypeId) (s x : Value) (h : H) : Option (Value × H) := match b.i st, b.i tx, s, x with
  | some ⟨.slice elem, _, _, _, _, _⟩, some ⟨.int _, _, _, _, _, _⟩, .slice none 0 0, .int _ n => match b.i elem with
    | some i => match i.size, decide (0 < n), decide (n ≤ 16777216), okRoom n.toNat i.bytes with
      | size' + 1, true, true, true => some (.slice (some ⟨h.next, 0, none⟩) n.toNat (UNK + n.toNat), h.push (.row ⟨repl i.zero n.toNat, elem, size' + 1, 0, none, false⟩))
      | _, _, _, _ => none
    | none => none
  | _, _, _, _ => none
def ef_append (args : List Operand) (ts : List TypeId) : EfR := fun b f o h => match args, ts with
  | [s, x], [t, tx] => match aappend b t tx (f.eval s) (f.eval x) h with
    | some (v, h) => .val v h
    | none => match zerosNil b t tx (f.eval s) (f.eval x) h with
      | some (v, h) => .val v h
      | none => .bad
  | _, _ => .bad
/-- The cells of so many elements of a slice or a string. -/
def srcCells (h : H) (size k : Nat) : Value → Option (List Value)
  | .slice none _ _ => match k with
    | 0 => some []
    | _ + 1 => none
  | .slice (some a) m _ => match k with
    | 0 => some []
    | _ + 1 => match Nat.ble k m with
      | true => cellsAt h a (k * size)
      | false => none
  | .string s => match Nat.ble k s.data.toList.length with
    | true => some ((s.data.toList.take k).map fun b => .int .u8 b.toNat)
    | false => none
  | _ => none
def lenOfA : Value → Option Nat
  | .slice _ n _ => some n
  | .string s => some s.data.toList.length
  | _ => none
def ef_copy (args : List Operand) (ts : List TypeId) : EfR := fun b f o h => match args, ts with
  | [d, s], t :: _ => match b.i t, f.eval d with
    | some ⟨.slice e, _, _, _, _, _⟩, .slice base dn _ => match b.i e, lenOfA (f.eval s) with
      | some i, some sn =>
        let k := Nat.min sn dn
        match srcCells h i.size k (f.eval s), k, base with
        | some _, 0, _ => .val (.int .i64 0) h
        | some l, k + 1, some a => match storeAs h a l with
          | some h => .val (.int .i64 ((k + 1 : Nat) : Int)) h
          | none => .bad
        | _, _, _ => .bad
      | _, _ => .bad
    | _, _ => .bad
  | _, _ => .bad
def ef_clear (args : List Operand) (ts : List TypeId) : EfR := fun b f o h => match args, ts with
  | [x], t :: _ => match f.eval x, b.i t with
    | .slice none _ _, some ⟨.slice _, _, _, _, _, _⟩ => .val (.tuple #[]) h
    | .slice (some a) n _, some ⟨.slice e, _, _, _, _, _⟩ => match n, b.i e with
      | 0, _ => .val (.tuple #[]) h
      | n + 1, some i => match storeAs h a (repl i.zero (n + 1)) with
        | some h => .val (.tuple #[]) h
        | none => .bad
      | _, _ => .bad
    | _, _ => .bad
  | _, _ => .bad
def pu_len (args : List Operand) (ts : List TypeId) : PuR := fun b f o h => match args, ts with
  | [x], t :: _ => match b.i t with
    | some i => match i.d, f.eval x with
      | .slice _, .slice _ n _ => some (.int .i64 n)
      | .string, .string s => some (.int .i64 s.data.toList.length)
      | .map _ _, .map none => some (.int .i64 0)
      | .map _ _, .map (some r) => match h.get r with
        | some (.obj (.map es _)) => some (.int .i64 es.length)
        | _ => none
      | .array n _, _ => some (.int .i64 n)
      | _, _ => none
    | none => none
  | _, _ => none
def pu_cap (args : List Operand) (ts : List TypeId) : PuR := fun b f o h => match args, ts with
  | [x], t :: _ => match f.eval x, b.i t with
    | .slice _ _ c, some ⟨.slice _, _, _, _, _, _⟩ => match Nat.blt c UNK with
      | true => some (.int .i64 c)
      | false => none
    | _, _ => none
  | _, _ => none
def enterOk (b : Tb) (g : FuncId) (args : List Value) (h : H) : Ro := match b.f g with
  | some _ => .enter g args h
  | none => .bad
def x_mapsClone (args : List Value) (h : H) : Ro := match args with
  | [.iface t (.map (some r))] => match h.get r with
    | some (.obj (.map es clock)) => .val (.iface t (.map (some h.next))) (h.push (.obj (.map es clock)))
    | _ => .bad
  | _ => .bad
def ef_fn (g : FuncId) (args : Array Operand) : EfR := fun b f o h => match b.f g with
  | some _ => .enter g (args.toList.map f.eval) h
  | none => match findX b.ex g with
    | some .mapsClone => x_mapsClone (args.toList.map f.eval) h
    | some .ident => match args.toList with
      | [x] => .val (f.eval x) h
      | _ => .bad
    | none => ef_gen b f o h
def ef_callv (x : Operand) (args : Array Operand) : EfR := fun b f o h => match f.eval x with
  | .func (.func g) a c => enterOk b g (a.toList ++ (args.toList.map f.eval ++ c.toList)) h
  | .func (.yield l) a c => match h.get l, a.toList, c.toList with
    | some (.obj (.loop st pd fn nt tm ps asg bd df)), [], [] =>
      match Nat.beq args.toList.length ps.length with
      | true => .round l fn nt (putAll nt tm (ps.zip (args.toList.map f.eval))) asg bd h
      | false => .bad
    | _, _, _ => .bad
  | _ => .bad
where
  putAll (nt : Nat) : T Value → List (Tmp × Value) → T Value
    | t, [] => t
    | t, (d, v) :: r => putAll nt (match Nat.blt d nt with | true => t.set v d | false => t) r
def findM : List (String × FuncId) → String → Option FuncId
  | [], _ => none
  | (n, f) :: r, m => match decide (n = m) with
    | true => some f
    | false => findM r m
def ef_invoke (x : Operand) (m : String) (args : Array Operand) : EfR := fun b f o h => match f.eval x with
  | .iface t v => match b.i t with
    | some i => match findM i.ms m with
      | some g => enterOk b g (v :: args.toList.map f.eval) h
      | none => .bad
    | none => .bad
  | _ => .bad
def keyEq : TypeDesc → Value → Value → Option Bool
  | .int _, .int k a, .int k' c => match decide (k = k') with
    | true => some (a == c)
    | false => none
  | .string, .string a, .string c => some (decide (a.data.toList = c.data.toList))
  | .bool, .bool a, .bool c => some (a == c)
  | _, _, _ => none
/-- The place of a key. -/
def keyAt (d : TypeDesc) (k : Value) : List MapEntry → Nat → Option (Option (Nat × Value))
  | [], _ => some none
  | e :: r, i => match keyEq d k e.key with
    | some true => some (some (i, e.val))
    | some false => keyAt d k r (i + 1)
    | none => none
/-- Keys that are compared at once. -/
def plainKey : TypeDesc → Bool
  | .int _ | .string | .bool => true
  | _ => false
def mset (k v : Value) : List MapEntry → Nat → List MapEntry
  | [], _ => []
  | e :: r, 0 => { e with key := k, val := v } :: r
  | e :: r, i + 1 => e :: mset k v r i
def mdel : List MapEntry → Nat → List MapEntry
  | [], _ => []
  | _ :: r, 0 => r
  | e :: r, i + 1 => e :: mdel r i
def ef_update (t : TypeId) (m k x : Operand) : EfR := fun b f o h => match f.eval m, b.i t with
  | .map (some r), some ⟨.map kt _, _, _, _, _, _⟩ => match h.get r, b.i kt with
    | some (.obj (.map es clock)), some ki => match plainKey ki.d, flat1 (f.eval k), keyAt ki.d (f.eval k) es 0 with
      | true, true, some none => .skip (h.put r (.obj (.map (es ++ [⟨f.eval k, f.eval x, clock⟩]) (clock + 1))))
      | true, true, some (some (i, _)) => .skip (h.put r (.obj (.map (mset (f.eval k) (f.eval x) es i) clock)))
      | _, _, _ => .bad
    | _, _ => .bad
  | _, _ => .bad
/-- The place of a map's entry (laid if it is not there): its value, its stamp. -/
def ef_mapEntry (t : TypeId) (m k : Operand) : EfR := fun b f o h => match f.eval m, b.i t with
  | .map (some r), some ⟨.map kt e, _, _, _, _, _⟩ => match h.get r, b.i kt, b.i e with
    | some (.obj (.map es clock)), some ki, some i => match plainKey ki.d, flat1 (f.eval k), keyAt ki.d (f.eval k) es 0 with
      | true, true, some none => match zeroOf i with
        | some z => .val (.tuple #[z, goInt clock]) (h.put r (.obj (.map (es ++ [⟨f.eval k, z, clock⟩]) (clock + 1))))
        | none => .bad
      | true, true, some (some (j, v)) => match es[j]? with
        | some x => .val (.tuple #[v, goInt x.born]) (h.put r (.obj (.map (mset (f.eval k) v es j) clock)))
        | none => .bad
      | _, _, _ => .bad
    | _, _, _ => .bad
  | _, _ => .bad
def bornIdx (s : Int) : List MapEntry → Nat → Option (Nat × Value)
  | [], _ => none
  | e :: r, i => match decide ((e.born : Int) = s) with
    | true => some (i, e.key)
    | false => bornIdx s r (i + 1)
def ef_entryStore (m s x : Operand) : EfR := fun b f o h => match f.eval m, f.eval s with
  | .map (some r), .int _ n => match h.get r with
    | some (.obj (.map es clock)) => match bornIdx n es 0 with
      | some (i, k) => .skip (h.put r (.obj (.map (mset k (f.eval x) es i) clock)))
      | none => .bad
    | _ => .bad
  | _, _ => .bad
def entriesOf (h : H) : Value → Option (List MapEntry)
  | .map none => some []
  | .map (some r) => match h.get r with
    | some (.obj (.map es _)) => some es
    | _ => none
  | _ => none
def pu_lookup (t : TypeId) (x k : Operand) (ok : Bool) : PuR := fun b f o h => match b.i t with
  | some ⟨.map kt e, _, _, _, _, _⟩ => match b.i kt, b.i e with
    | some ki, some i => match plainKey ki.d, entriesOf h (f.eval x) with
      | true, some es => match keyAt ki.d (f.eval k) es 0 with
        | some (some (_, v)) => some (match ok with | true => .tuple #[v, .bool true] | false => v)
        | some none => match zeroOf i with
          | some z => some (match ok with | true => .tuple #[z, .bool false] | false => z)
          | none => none
        | none => none
      | _, _ => none
    | _, _ => none
  | _ => none
def ef_delete (args : List Operand) (ts : List TypeId) : EfR := fun b f o h => match args, ts with
  | [m, k], t :: _ => match f.eval m, b.i t with
    | .map (some r), some ⟨.map kt _, _, _, _, _, _⟩ => match h.get r, b.i kt with
      | some (.obj (.map es clock)), some ki => match plainKey ki.d, keyAt ki.d (f.eval k) es 0 with
        | true, some none => .val (.tuple #[]) (h.put r (.obj (.map es clock)))
        | true, some (some (i, _)) => .val (.tuple #[]) (h.put r (.obj (.map (mdel es i) clock)))
        | _, _ => .bad
      | _, _ => .bad
    | _, _ => .bad
  | _, _ => .bad
def ef_makeMap (t : TypeId) (r : Option Operand) : EfR := fun b f o h => match r with
  | none => .val (.map (some h.next)) (h.push (.obj (.map [] 0)))
  | some x => match b.i t, f.eval x with
    | some ⟨.map _ _, _, _, _, _, _⟩, .int _ _ => .val (.map (some h.next)) (h.push (.obj (.map [] 0)))
    | _, _ => .bad
def ef_range (t : TypeId) (x : Operand) : EfR := fun b f o h => match b.i t, f.eval x with
  | some ⟨.string, _, _, _, _, _⟩, .string s => .val (.pointer (some ⟨h.next, 0, none⟩)) (h.push (.obj (.strIter s 0)))
  | some ⟨.map _ _, _, _, _, _, _⟩, .map none => .val (.pointer (some ⟨h.next, 0, none⟩)) (h.push (.obj (.mapIter none 0 [] 0)))
  | some ⟨.map _ _, _, _, _, _, _⟩, .map (some m) => match h.get m with
    | some (.obj (.map _ clock)) => .val (.pointer (some ⟨h.next, 0, none⟩)) (h.push (.obj (.mapIter (some m) clock [] clock)))
    | _ => .bad
  | _, _ => .bad
def ef_next (it : Operand) (isString : Bool) : EfR := fun b f o h => match f.eval it with
  | .pointer (some ⟨r, 0, _⟩) => match h.get r, isString with
    | some (.obj (.strIter s pos)), true => match Nat.blt pos s.data.toList.length with
      | true => let cw := Utf8.decode s pos
        .val (.tuple #[.bool true, goInt pos, .int .i32 cw.1]) (h.put r (.obj (.strIter s (pos + cw.2))))
      | false => .val (.tuple #[.bool false]) h
    | some (.obj (.mapIter none _ _ _)), false => .val (.tuple #[.bool false]) h
    | some (.obj (.mapIter (some m) since seen last)), false => match h.get m with
      | some (.obj (.map [] clock)) => .val (.tuple #[.bool false]) h
      | some (.obj (.map [e] clock)) => match seen, Nat.blt e.born since, Nat.blt e.born last with
        | [], true, _ => .val (.tuple #[.bool true, e.key, e.val]) (h.put r (.obj (.mapIter (some m) since [e.born] clock)))
        | [s], _, true => match Nat.beq s e.born with
          | true => .val (.tuple #[.bool false]) h
          | false => .bad
        | _, _, _ => .bad
      | _ => .bad
    | _, _ => .bad
  | _ => .bad
def bornAt (s : Nat) : List MapEntry → Option MapEntry
  | [] => none
  | e :: r => match Nat.beq e.born s with
    | true => some e
    | false => bornAt s r
def pu_entry (it : Operand) : PuR := fun b f o h => match f.eval it with
  | .pointer (some ⟨r, 0, _⟩) => match h.get r with
    | some (.obj (.mapIter (some m) _ [s] last)) => match h.get m with
      | some (.obj (.map es clock)) => match Nat.beq clock last, bornAt s es with
        | true, some e => some (.tuple #[e.key, e.val])
        | _, _ => none
      | _ => none
    | _ => none
  | _ => none
def pu_typeAssert (x : Operand) (ty : TypeId) (ok : Bool) : PuR := fun b f o h => match b.i ty, f.eval x with
  | some i, .iface t v => match i.d with
    | .interface _ => none
    | _ => match Nat.beq t ty, ok with
      | true, true => some (.tuple #[v, .bool true])
      | true, false => some v
      | false, true => match zeroOf i with
        | some z => some (.tuple #[z, .bool false])
        | none => none
      | false, false => none
  | some i, .nilIface => match i.d, ok with
    | .interface _, _ => none
    | _, true => match zeroOf i with
      | some z => some (.tuple #[z, .bool false])
      | none => none
    | _, false => none
  | _, _ => none
def pu_makeInterface (t : TypeId) (x : Operand) : PuR := fun b f o h => match b.i t with
  | some ⟨.interface _, _, _, _, _, _⟩ => none
  | some _ => some (.iface t (f.eval x))
  | none => none
/-- Bytes out of cells. -/
def bytesOf : List Value → Option (List UInt8)
  | [] => some []
  | .int .u8 n :: r => match bytesOf r with
    | some l => some (UInt8.ofNat n.toNat :: l)
    | none => none
  | _ :: _ => none
def pu_convert (s d : TypeId) (x : Operand) : PuR := fun b f o h => match b.i s, b.i d, f.eval x with
  | some _, some ⟨.int k, _, _, _, _, _⟩, .int _ n => some (.int k (k.wrap n))
  | some ⟨.slice e, _, _, _, _, _⟩, some ⟨.string, _, _, _, _, _⟩, .slice base n _ => match b.i e, base with
    | some ⟨.int .u8, _, _, _, _, _⟩, none => some (.string .empty)
    | some ⟨.int .u8, _, _, _, _, _⟩, some a => match (match n with | 0 => some [] | _ + 1 => cellsAt h a n) with
      | some l => match bytesOf l with
        | some l => some (.string ⟨l.toArray⟩)
        | none => none
      | none => none
    | _, _ => none
  | some ⟨.pointer t, _, _, _, _, _⟩, some ⟨.unsafePointer, _, _, _, _, _⟩, .pointer (some a) => match b.i t, rowAt h a.block with
    | some i, some r => match i.size, Nat.blt a.off r.c.length with
      | _ + 1, true => some (.pointer (some a))
      | _, _ => none
    | _, _ => none
  | some ⟨.unsafePointer, _, _, _, _, _⟩, some ⟨.pointer u, _, _, _, _, _⟩, .pointer (some a) => match b.i u, rowAt h a.block with
    | some i, some ⟨x :: c, e, 0, _, _, _⟩ => match i.size, liesAt b.P b.P.depth e ((x :: c).length / b.P.cellsOf e) a.off u 1 with
      | _ + 1, true => some (.pointer (some a))
      | _, _ => none
    | _, _ => none
  | _, _, _ => pu_gen b f o h
/-- unsafe.SliceData. -/
def pu_sliceData (args : List Operand) : PuR := fun b f o h => match args with
  | [x] => match f.eval x with
    | .slice none _ _ => some (.pointer none)
    | .slice (some a) (_ + 1) (_ + 1) => some (.pointer (some a))
    | _ => none
  | _ => none
/-- unsafe.String: the bytes may not be written any more. -/
def ef_unsafeString (args : List Operand) (ts : List TypeId) : EfR := fun b f o h => match args, ts with
  | [p, n], [pt, _] => match f.eval p, f.eval n with
    | .pointer none, .int _ 0 => .val (.string .empty) h
    | .pointer (some a), .int _ n => match decide (0 < n), decide (n ≤ 4294967296), b.i pt, rowAt h a.block with
      | true, true, some ⟨.pointer e, _, _, _, _, _⟩, some r => match b.i e, Nat.beq r.e e, ltake (ldrop r.c a.off) n.toNat with
        | some ⟨.int .u8, 1, _, _, _, _⟩, true, some l => match (match r.sp with | true => none | false => bytesOf l) with
          | some l => .val (.string ⟨l.toArray⟩) (h.put a.block (.row { r with sp := true }))
          | none => .bad
        | _, _, _ => .bad
      | _, _, _, _ => .bad
    | _, _ => .bad
  | _, _ => .bad
/-- []byte of a string: a row whose capacity is not known. -/
def ef_bytes (s d : TypeId) (x : Operand) : EfR := fun b f o h => match b.i s, b.i d, f.eval x with
  | some _, some ⟨.slice e, _, _, _, _, _⟩, .string s => match b.i e with
    | some ⟨.int .u8, _, _, _, _, _⟩ =>
      let l : List Value := s.data.toList.map fun b => .int .u8 b.toNat
      match Nat.ble l.length 16777216 with
      | true => .val (.slice (some ⟨h.next, 0, none⟩) l.length (UNK + l.length)) (h.push (.row ⟨l, e, 1, 0, none, false⟩))
      | false => .bad
    | _ => .bad
  | _, _, _ => .bad
def ef_panic (x : Operand) : EfR := fun b f o h => match f.eval x with
  | .iface t v => .panic (.iface t v) h
  | _ => .bad
def ef_deferOp (c : Call) : EfR := fun b f o h => match f.round with
  | some _ => .bad
  | none => match c.callee with
    | .value x => match f.eval x with
      | .func (.func g) a cp => .defer { target := .fn (.func g) cp, args := (a.toList ++ c.args.toList.map f.eval).toArray } h
      | _ => .bad
    | _ => .bad
def cls_builtin (bi : Builtin) (args : Array Operand) (ts : Array TypeId) : Cls := match bi with
  | .append => .eff (ef_append args.toList ts.toList)
  | .len => .pure (pu_len args.toList ts.toList)
  | .cap => .pure (pu_cap args.toList ts.toList)
  | .copy => .eff (ef_copy args.toList ts.toList)
  | .clear => .eff (ef_clear args.toList ts.toList)
  | .delete => .eff (ef_delete args.toList ts.toList)
  | .max | .min => .pure pu_gen
  | .unsafeSliceData => .pure (pu_sliceData args.toList)
  | .unsafeString => .eff (ef_unsafeString args.toList ts.toList)
  | .recover => .eff fun b f o h => .recov h
  | _ => .eff fun b f o h => .bad
def cls_value (x : Operand) (args : Array Operand) : Cls := match x with
  | .func g => .eff (ef_fn g args)
  | x => .eff (ef_callv x args)
def cls_call (c : Call) : Cls := match c.callee with
  | .builtin bi => cls_builtin bi c.args c.argTypes
  | .value x => cls_value x c.args
  | .invoke x m => .eff (ef_invoke x m c.args)
def cls_bad : Cls := .eff fun b f o h => .bad
/-- Conversions of a string to bytes lay a row; the others read. -/
def cls_convert (b : Tb) (s d : TypeId) (x : Operand) : Cls := match b.i d with
  | some ⟨.slice _, _, _, _, _, _⟩ => .eff (ef_bytes s d x)
  | _ => .pure (pu_convert s d x)
def clsOf (b : Tb) (o : Op) : Cls := @Op.casesOn (fun _ => Cls) o
  (fun x => .pure (pu_move x)) (fun x => .eff fun b f o h => .val (f.eval x) h) (fun c x y => .pure (pu_pick c x y))
  (fun e => .lay (la_alloc e)) (fun e x => .lay (la_box e x)) (fun t ps => .pure (pu_build t ps)) (fun t n ps => .lay (la_buildSlice t n ps))
  (fun t m k x => .eff (ef_update t m k x)) (fun t a => .pure (pu_load t a)) (fun t a x => .eff (ef_store t a x))
  (fun _ => cls_bad) (fun _ => cls_bad) (fun x => .pure (pu_nilCheck x)) (fun op t x y _ => .pure (pu_binOp op t x y)) (fun u _ x => .pure (pu_unOp u x))
  (fun s d x => cls_convert b s d x) (fun _ _ => cls_bad) (fun t x => .pure (pu_makeInterface t x)) (fun fn a c => .pure (pu_makeFunc fn a c))
  (fun t r => .eff (ef_makeMap t r)) (fun _ _ => cls_bad) (fun t l c => .lay (la_makeSlice t l c)) (fun t x lo hi mx => .pure (pu_slice t x lo hi mx))
  (fun s x j => .pure (pu_fieldAddr s x j)) (fun s x j => .pure (pu_field s x j)) (fun t x i => .pure (pu_indexAddr t x i)) (fun t x i => .pure (pu_index t x i))
  (fun t x k ok => .pure (pu_lookup t x k ok)) (fun t m k x => .eff (ef_update t m k x)) (fun t m k => .eff (ef_mapEntry t m k)) (fun _ m s x => .eff (ef_entryStore m s x))
  (fun t x => .eff (ef_range t x)) (fun it s => .eff (ef_next it s)) (fun it => .pure (pu_entry it)) (fun x _ ty ok => .pure (pu_typeAssert x ty ok)) (fun x j => .pure (pu_extract x j))
  cls_call (fun _ => cls_bad) (fun c => .eff (ef_deferOp c)) (fun x => .eff (ef_panic x)) (fun _ _ => cls_bad) (fun _ _ _ => cls_bad) (fun _ _ => cls_bad)
/-- A row that has been laid: its value. -/
def laid (n : Nat) : Option (Nat × Nat) → Value
  | none => .pointer (some ⟨n, 0, none⟩)
  | some (k, c) => .slice (some ⟨n, 0, none⟩) k c
def layRow (l : List Value) (e : TypeId) : Row := ⟨l, e, 0, 0, none, false⟩
/-- One operation. -/
def oneOp (b : Tb) (f : AF) (o : Oper) (h : H) : Ro := match clsOf b o.op with
  | .pure p => match p b f o h with
    | some v => .val v h
    | none => .bad
  | .lay l => match l b f o h with
    | some (c, e, k) => .val (laid h.next k) (h.push (.row (layRow c e)))
    | none => .bad
  | .eff e => e b f o h

/-! ### Regions that draw -/
def nth : List Nat → Nat → Nat
  | [], _ => 0
  | m :: _, 0 => m
  | _ :: r, i + 1 => nth r i
def maskOf (acc : List Nat) : List Edge → Nat → Nat
  | [], m => m
  | e :: r, m => match Region.binds .any e with
    | false => maskOf acc r m
    | true => maskOf acc r (m ||| 2 ^ e.on ||| nth acc e.on)
/-- Each operation's ancestors. -/
def ancGo : List Oper → List Nat → List Nat
  | [], acc => acc
  | o :: r, acc => ancGo r (acc ++ [maskOf acc o.after.toList 0])
def ancs (ops : Array Oper) : List Nat := ancGo ops.toList []
def tmpsIn : List Operand → List Tmp
  | [] => []
  | .tmp t :: r => t :: tmpsIn r
  | _ :: r => tmpsIn r
/-- What an operation looks at. -/
def names (ops : Array Oper) (o : Oper) : List Tmp := match o.guard with
  | none => tmpsIn o.op.operands.toList
  | some (j, _) => match ops[j]? with
    | some oj => match oj.dst with
      | some d => d :: tmpsIn o.op.operands.toList
      | none => tmpsIn o.op.operands.toList
    | none => tmpsIn o.op.operands.toList
def isFloat (b : Tb) (o : Oper) : Bool := match clsOf b o.op with
  | .eff _ => false
  | _ => true
/-- What the operations that float write. -/
def writes (b : Tb) : List Oper → Nat → List (Nat × Tmp)
  | [], _ => []
  | o :: r, i => match o.dst, isFloat b o with
    | some d, true => (i, d) :: writes b r (i + 1)
    | _, _ => writes b r (i + 1)
def memN (d : Nat) : List Nat → Bool
  | [] => false
  | t :: r => match Nat.beq d t with
    | true => true
    | false => memN d r
def okNames (m : Nat) (ns : List Tmp) : List (Nat × Tmp) → Bool
  | [] => true
  | (j, d) :: r => match memN d ns, m.testBit j with
    | true, false => false
    | _, _ => okNames m ns r
def edgesLt (i : Nat) : List Edge → Bool
  | [] => true
  | e :: r => match Region.binds .any e, Nat.blt e.on i with
    | true, false => false
    | _, _ => edgesLt i r
/-- No other operation writes it. -/
def alone (i : Nat) (d : Tmp) : List Oper → Nat → Bool
  | [], _ => true
  | o :: r, j => match o.dst with
    | none => alone i d r (j + 1)
    | some d' => match Nat.beq d d', Nat.beq i j with
      | true, false => false
      | _, _ => alone i d r (j + 1)
def noDup (os : List Oper) : List (Nat × Tmp) → Bool
  | [] => true
  | (i, d) :: r => match alone i d os 0 with
    | true => noDup os r
    | false => false
def regGo (ops : Array Oper) (an : List Nat) (ws : List (Nat × Tmp)) : List Oper → Nat → Bool
  | [], _ => true
  | o :: r, i => match edgesLt i o.after.toList, okNames (nth an i) (names ops o) ws with
    | true, true => regGo ops an ws r (i + 1)
    | _, _ => false
/-- What an operation looks at is, if one that floats writes it, written by its ancestor; what floats is written once; edges go back. -/
def regOk (b : Tb) (ops : Array Oper) : Bool := match noDup ops.toList (writes b ops.toList 0) with
  | true => regGo ops (ancs ops) (writes b ops.toList 0) ops.toList 0
  | false => false
def edgesIn (done : Nat) : List Edge → Bool
  | [] => true
  | e :: r => match Region.binds .any e, done.testBit e.on with
    | true, false => false
    | _, _ => edgesIn done r
/-- The operations that are ready. -/
def readyD (done : Nat) : List Oper → Nat → List (Nat × Oper)
  | [], _ => []
  | o :: r, i => match done.testBit i with
    | true => readyD done r (i + 1)
    | false => match edgesIn done o.after.toList with
      | true => (i, o) :: readyD done r (i + 1)
      | false => readyD done r (i + 1)
inductive Flt where
  | ok (v : Value) (h : H)
  | not
  | bad
/-- An operation that floats: it reads, or lays a row (or is not wanted). -/
def floatOp (b : Tb) (f : AF) (ops : Array Oper) (o : Oper) (h : H) : Flt := match clsOf b o.op with
  | .pure p => match wantedT f ops o with
    | none => .bad
    | some false => .ok undef h
    | some true => match p b f o h with
      | some v => .ok v h
      | none => .bad
  | .lay l => match wantedT f ops o with
    | none => .bad
    | some false => .ok undef h
    | some true => match l b f o h with
      | some (c, e, k) => .ok (laid h.next k) (h.push (.row (layRow c e)))
      | none => .bad
  | .eff _ => .not
structure DS where
  f : AF
  h : H
  done : Nat
  lag : List Nat
/-- The first float that is ready is done. -/
def oneFloat (b : Tb) (ops : Array Oper) (s : DS) : List (Nat × Oper) → Option (Option DS)
  | [] => some none
  | (i, o) :: r => match floatOp b s.f ops o s.h with
    | .ok v h => some (some ⟨s.f.put o.dst v, h, s.done ||| 2 ^ i, i :: s.lag⟩)
    | .not => oneFloat b ops s r
    | .bad => none
def floats (b : Tb) (ops : Array Oper) : Nat → DS → Option DS
  | 0, _ => none
  | n + 1, s => match oneFloat b ops s (readyD s.done ops.toList 0) with
    | some none => some s
    | some (some s') => floats b ops n s'
    | none => none
/-- A row as it has just been laid. -/
def freshRow (h : H) (c : List Value) (e : TypeId) (k : Option (Nat × Nat)) : Value → Bool
  | .pointer (some a) => match k, rowAt h a.block, a.off, a.spot with
    | none, some ⟨c', e', 0, 0, none, false⟩, 0, none => Nat.beq e' e && eqL eqV c' c
    | _, _, _, _ => false
  | .slice (some a) n m => match k, rowAt h a.block, a.off, a.spot with
    | some (k, kc), some ⟨c', e', 0, 0, none, false⟩, 0, none => match Nat.beq n k, Nat.beq m kc with
      | true, true => Nat.beq e' e && eqL eqV c' c
      | _, _ => false
    | _, _, _, _ => false
  | _ => false
/-- A float that may not have been done yet would give the same now. -/
def sameNow (b : Tb) (f : AF) (ops : Array Oper) (h : H) (o : Oper) : Bool := match o.dst with
  | none => false
  | some d => match Nat.blt d f.nt with
    | false => false
    | true => match wantedT f ops o with
      | none => false
      | some false => eqV (f.tmp d) undef
      | some true => match clsOf b o.op with
        | .pure p => match p b f o h with
          | some w => eqV (f.tmp d) w
          | none => false
        | .lay l => match l b f o h with
          | some (c, e, k) => freshRow h c e k (f.tmp d)
          | none => false
        | .eff _ => false
def allSame (b : Tb) (f : AF) (ops : Array Oper) (h : H) : List Nat → Bool
  | [] => true
  | i :: r => match ops[i]? with
    | none => false
    | some o => match sameNow b f ops h o with
      | true => allSame b f ops h r
      | false => false
def notIn (m : Nat) : List Nat → List Nat
  | [] => []
  | i :: r => match m.testBit i with
    | true => notIn m r
    | false => i :: notIn m r

/-! ### The machine -/
structure AS where
  f : AF
  cs : List AF
  h : H
inductive Out where
  | go (s : AS)
  | done (v : Value) (s : AS)
  | bad (why : Nat)
def asExit (id : Nat) : List AI → Option (List AI)
  | [] => none
  | .inBlock j :: k => match Nat.beq j id with
    | true => some k
    | false => asExit id k
  | _ :: k => asExit id k
def enterF (b : Tb) (g : FuncId) (args : List Value) (kind : CallKind) : Option AF := match b.f g with
  | some i => some { id := g, nt := Nat.max args.length i.nt, res := i.res, tmps := setAll .e 0 args, todo := [.code i.body], defers := [], mode := .run, kind, round := none, gl := b.gl }
  | none => none
/-- A call whose result is known: of operands without addresses. -/
structure Orc where
  f : FuncId
  args : List Value → Option Value
def findOrc : List Orc → FuncId → Option Orc
  | [], _ => none
  | o :: r, f => match Nat.beq o.f f with
    | true => some o
    | false => findOrc r f
def raise (f : AF) (vs : List PanicEntry) : AF := match f.mode with
  | .panicking chain => { f with mode := .panicking (vs ++ chain) }
  | _ => { f with mode := .panicking vs }
def tryRec (f : AF) (cs : List AF) : Option (Value × List AF) := match f.kind, cs with
  | .deferred, c :: r => match c.mode with
    | .panicking ({ v, recovered := false, goexit := false } :: older) => some (v, { c with mode := .panicking ({ v, recovered := true } :: older) } :: r)
    | _ => none
  | _, _ => none
def flatL : List Value → Bool
  | [] => true
  | v :: r => match flat v with
    | true => flatL r
    | false => false
def apply (b : Tb) (orc : List Orc) (f : AF) (cs : List AF) : Ro → Out
  | .val v h => .go ⟨f.finish v, cs, h⟩
  | .skip h => .go ⟨f.finish undef, cs, h⟩
  | .enter g args h => match findOrc orc g with
    | some o => match flatL args, o.args args with
      | true, some v => match flat v with
        | true => .go ⟨f.finish v, cs, h⟩
        | false => .bad 1
      | _, _ => .bad 2
    | none => match enterF b g args .normal with
      | some x => .go ⟨x, f :: cs, h⟩
      | none => .bad 3
  | .defer d h => .go ⟨({ f with defers := d :: f.defers } : AF).finish undef, cs, h⟩
  | .recov h => match f.round with
    | some _ => .bad 4
    | none => match tryRec f cs with
      | some (v, cs) => .go ⟨f.finish v, cs, h⟩
      | none => .go ⟨f.finish .nilIface, cs, h⟩
  | .round l g nt tmps asg body h =>
    .go ⟨{ id := g, nt, res := [], tmps, todo := [.code asg, .begin, .code body], defers := [], mode := .run, kind := .normal, round := some l, gl := f.gl }, f :: cs, h⟩
  | .panic v h => .go ⟨raise f [{ v, recovered := false }], cs, h⟩
  | .bad => .bad 5
def getLoop (h : H) (l : Nat) : Option AObj := match h.get l with
  | some (.obj (.loop st pd fn nt tm ps a c d)) => some (.loop st pd fn nt tm ps a c d)
  | _ => none
def leave (b : Tb) (s : AS) (jump : Option Code) : Out := match s.f.round with
  | none => match jump with
    | none | some .ret => .go { s with f := { s.f with mode := .returning } }
    | _ => .bad 6
  | some l => match h_end s.h l jump, s.cs, s.f.kind with
    | some (v, h), c :: cs, .normal => .go ⟨c.finish v, cs, h⟩
    | _, _, _ => .bad 7
where
  h_end (h : H) (l : Nat) (jump : Option Code) : Option (Value × H) := match h.get l with
    | some (.obj (.loop st pd fn nt tm ps a c d)) => match jump with
      | none => some (.bool true, h.put l (.obj (.loop .ready none fn nt tm ps a c d)))
      | some j => some (.bool false, h.put l (.obj (.loop .done (some j) fn nt tm ps a c d)))
    | _ => none
def s_code (b : Tb) (orc : List Orc) (s : AS) (k : List AI) (c : Code) : Out := match c with
  | .skip | .label _ => .go { s with f := { s.f with todo := k } }
  | .region _ ops draw => match draw with
    | true => match regOk b ops with
      | true => .go { s with f := { s.f with todo := .dreg ops 0 [] none :: k } }
      | false => .bad 31
    | false => .go { s with f := { s.f with todo := .reg ops 0 ops.toList :: k } }
  | .seq x y => .go { s with f := { s.f with todo := .code x :: .code y :: k } }
  | .cond c x y => match s.f.eval c with
    | .bool true => .go { s with f := { s.f with todo := .code x :: k } }
    | .bool false => .go { s with f := { s.f with todo := .code y :: k } }
    | _ => .bad 8
  | .block id c => .go { s with f := { s.f with todo := .code c :: .inBlock id :: k } }
  | .loop c => .go { s with f := { s.f with todo := .code c :: .inLoop c :: k } }
  | .rangeFunc x params assign body =>
    -- the loop's own objects, then the call
    let r1 : Option (Nat × List Deferred × H) := match s.f.round with
      | none => some (s.h.next, [{ target := .collected s.h.next, args := #[] }], s.h.push (.obj (.deferred (some []))))
      | some l => match s.h.get l with
        | some (.obj (.loop _ _ _ _ _ _ _ _ d)) => some (d, [], s.h)
        | _ => none
    match r1 with
    | none => .bad 9
    | some (d, mk, h) =>
      let l := h.next
      let h := h.push (.obj (.loop .ready none s.f.id s.f.nt s.f.tmps params.toList assign body d))
      match s.f.eval x with
      | .func (.func g) a cp =>
        apply b orc { s.f with todo := .inRange l :: k, defers := mk ++ s.f.defers } s.cs (enterOk b g (a.toList ++ (.func (.yield l) #[] #[] :: cp.toList)) h)
      | _ => .bad 10
  | .exit id => match asExit id k with
    | some k => .go { s with f := { s.f with todo := k } }
    | none => leave b s (some (.exit id))
  | .scope c => .go { s with f := { s.f with todo := .code c :: .inScope c :: k } }
  | .goto _ => .bad 11
  | .ret => leave b s (some .ret)
  | .refuse _ => .bad 12
def s_reg (b : Tb) (orc : List Orc) (s : AS) (k : List AI) (ops : Array Oper) (o : Oper) : Out :=
  match wantedT s.f ops o with
  | some true => apply b orc s.f s.cs (oneOp b s.f o s.h)
  | some false => .go { s with f := s.f.finish undef }
  | none => .bad 33
def s_dreg (b : Tb) (orc : List Orc) (s : AS) (k : List AI) (ops : Array Oper) (done : Nat) (lag : List Nat) : Out :=
  match floats b ops 100 ⟨s.f, s.h, done, lag⟩ with
  | none => .bad 13
  | some d => match allSame b d.f ops d.h d.lag with
    | false => .bad 14
    | true => match readyD d.done ops.toList 0 with
      | [] => match Nat.beq (d.done + 1) (2 ^ ops.size) with
        | true => .go ⟨{ d.f with todo := k }, s.cs, d.h⟩
        | false => .bad 15
      | [(i, o)] =>
        let g : AF := { d.f with todo := .dreg ops (d.done ||| 2 ^ i) (notIn (nth (ancs ops) i) d.lag) (some (i, o)) :: k }
        match wantedT d.f ops o with
        | some true => apply b orc g s.cs (oneOp b d.f o d.h)
        | some false => .go ⟨g.finish undef, s.cs, d.h⟩
        | none => .bad 34
      | _ => .bad 16
def s_run (b : Tb) (orc : List Orc) (s : AS) : Out := match s.f.todo with
  | [] => leave b s none
  | .code c :: k => s_code b orc s k c
  | .inBlock _ :: k | .inScope _ :: k => .go { s with f := { s.f with todo := k } }
  | .inLoop c :: k => .go { s with f := { s.f with todo := .code c :: .inLoop c :: k } }
  | .reg _ _ [] :: k => .go { s with f := { s.f with todo := k } }
  | .reg ops _ (o :: _) :: k => s_reg b orc s k ops o
  | .dreg ops done lag none :: k => s_dreg b orc s k ops done lag
  | .dreg _ _ _ (some _) :: _ => .bad 17
  | .inRange _ :: _ => .bad 18
  | .begin :: k => match s.f.round with
    | some l => match s.h.get l with
      | some (.obj (.loop .ready pd fn nt tm ps a c d)) => .go ⟨{ s.f with todo := k }, s.cs, s.h.put l (.obj (.loop .busy pd fn nt tm ps a c d))⟩
      | _ => .bad 19
    | none => .bad 20
  | .endRange l :: k => match s.h.get l with
    | some (.obj (.loop st pd fn nt tm ps a c d)) => match st with
      | .busy => .bad 21
      | _ => .go ⟨{ s.f with todo := match pd with | none => k | some j => .code j :: k }, s.cs, s.h.put l (.obj (.loop .exhausted pd fn nt tm ps a c d))⟩
    | _ => .bad 22
def oneRes (b : Tb) (s : AS) : ResultVar → Option Value
  | .tmp t => some (s.f.tmp t)
  | .cell a t => match s.f.tmp a, b.i t with
    | .pointer (some a), some i => loadAs s.h a i
    | _, _ => none
def allRes (b : Tb) (s : AS) : List ResultVar → Option (List Value)
  | [] => some []
  | r :: l => match oneRes b s r, allRes b s l with
    | some v, some vs => some (v :: vs)
    | _, _ => none
def resOf (b : Tb) (s : AS) : Option Value := match allRes b s s.f.res with
  | some [v] => some v
  | some vs => some (.tuple vs.toArray)
  | none => none
def unpanic (c : AF) : Option AF := match c.mode with
  | .panicking ({ recovered := true, .. } :: older) => match older with
    | [] => some { c with mode := .returning }
    | _ :: _ => none
  | _ => some c
/-- No operation that may lag writes it. -/
def lagFree (ops : Array Oper) (d : Tmp) : List Nat → Bool
  | [] => true
  | i :: r => match ops[i]? with
    | none => lagFree ops d r
    | some o => match o.dst with
      | none => lagFree ops d r
      | some e => match Nat.beq d e with
        | true => false
        | false => lagFree ops d r
def resTmp : ResultVar → Tmp
  | .tmp t => t
  | .cell a _ => a
def resFreeL (ops : Array Oper) (lag : List Nat) : List ResultVar → Bool
  | [] => true
  | r :: l => match lagFree ops (resTmp r) lag with
    | true => resFreeL ops lag l
    | false => false
def resFree (f : AF) : Bool := match f.todo with
  | .dreg ops _ lag _ :: _ => resFreeL ops lag f.res
  | _ => true
def s_ret (b : Tb) (s : AS) : Out := match s.f.round, resFree s.f, resOf b s with
  | none, true, some v => match s.cs with
    | [] => match s.f.kind with
      | .normal => .done v s
      | _ => .bad 23
    | c :: cs => match s.f.kind with
      | .normal => .go ⟨c.finish v, cs, s.h⟩
      | .deferred => match unpanic c with
        | some c => .go ⟨c, cs, s.h⟩
        | none => .bad 32
      | _ => .bad 24
  | _, _, _ => .bad 25
def s_unw (b : Tb) (orc : List Orc) (s : AS) : Out := match s.f.defers with
  | { target := .collected c, .. } :: ds => match s.h.get c with
    | some (.obj (.deferred (some l))) => .go ⟨{ s.f with defers := l ++ ds }, s.cs, s.h.put c (.obj (.deferred none))⟩
    | _ => .bad 26
  | { target := .fn (.func g) cp, args } :: ds => match enterF b g (args.toList ++ cp.toList) .deferred with
    | some x => .go ⟨x, { s.f with defers := ds } :: s.cs, s.h⟩
    | none => .bad 27
  | _ :: _ => .bad 28
  | [] => match s.f.mode with
    | .run => .bad 29
    | .panicking chain => match s.cs with
      | c :: cs => .go ⟨raise c chain, cs, s.h⟩
      | [] => .bad 30
    | .returning => s_ret b s
def step (b : Tb) (orc : List Orc) (s : AS) : Out := match s.f.mode with
  | .run => s_run b orc s
  | _ => s_unw b orc s
def run (b : Tb) (orc : List Orc) (n : Nat) : AS → Out := Nat.rec (motive := fun _ => AS → Out) (fun s => .go s) (fun _ ih s => match step b orc s with
  | .go s => ih s
  | o => o) n
def start (b : Tb) (h : H) (f : FuncId) (args : List Value) : Option AS := match enterF b f args .normal with
  | some g => some ⟨g, [], h⟩
  | none => none
end
end Go.Ev
end

section
set_option linter.unusedVariables false
namespace Go.Ev
open Go
/-- Where an abstract block lies: block, shift, elements' size, cells in all. -/
structure Loc where
  b : Nat
  d : Nat
  st : Nat
  E : Nat
abbrev Rho := Nat → Option Loc
inductive V (ρ : Rho) : Value → Value → Prop
  | junk (v : Value) : V ρ (.complex .f32 0 0) v
  | bool (b : Bool) : V ρ (.bool b) (.bool b)
  | int (k : IntKind) (n : Int) : V ρ (.int k n) (.int k n)
  | float (k : FloatKind) (n : Nat) : V ρ (.float k n) (.float k n)
  | string (s : ByteArray) : V ρ (.string s) (.string s)
  | ptr0 : V ρ (.pointer none) (.pointer none)
  | slice0 (n c : Nat) : V ρ (.slice none n c) (.slice none n c)
  | map0 : V ρ (.map none) (.map none)
  | nilFunc : V ρ .nilFunc .nilFunc
  | nilIface : V ρ .nilIface .nilIface
  | ptr {a a' : Addr} {L : Loc} (h : ρ a.block = some L) (hs : a.spot = none) (ha : a' = ⟨L.b, L.d + a.off, none⟩) : V ρ (.pointer (some a)) (.pointer (some a'))
  | sliceK {a a' : Addr} {L : Loc} {n c : Nat} (h : ρ a.block = some L) (hs : a.spot = none) (ha : a' = ⟨L.b, L.d + a.off, none⟩) (hc : c < UNK) :
      V ρ (.slice (some a) n c) (.slice (some a') n c)
  | sliceU {a a' : Addr} {L : Loc} {n c c' : Nat} (h : ρ a.block = some L) (hs : a.spot = none) (hc : UNK ≤ c) (hc' : c - UNK ≤ c') (hn : n ≤ c - UNK)
      (ha : c' = 0 ∨ (a' = ⟨L.b, L.d + a.off, none⟩ ∧ L.d + a.off + c' * L.st ≤ L.E)) :
      V ρ (.slice (some a) n c) (.slice (some a') n c')
  | map {r : Nat} {L : Loc} (h : ρ r = some L) : V ρ (.map (some r)) (.map (some L.b))
  | iface (t : TypeId) {v v' : Value} (h : V ρ v v') : V ρ (.iface t v) (.iface t v')
  | agg {cs cs' : Array Value} (hs : cs.size = cs'.size) (h : ∀ (i : Nat) (h : i < cs.size) (h' : i < cs'.size), V ρ cs[i] cs'[i]) : V ρ (.agg cs) (.agg cs')
  | tuple {cs cs' : Array Value} (hs : cs.size = cs'.size) (h : ∀ (i : Nat) (h : i < cs.size) (h' : i < cs'.size), V ρ cs[i] cs'[i]) : V ρ (.tuple cs) (.tuple cs')
  | func (f : FuncId) {a a' c c' : Array Value} (hs : a.size = a'.size) (ht : c.size = c'.size) (h : ∀ (i : Nat) (h : i < a.size) (h' : i < a'.size), V ρ a[i] a'[i])
      (g : ∀ (i : Nat) (h : i < c.size) (h' : i < c'.size), V ρ c[i] c'[i]) : V ρ (.func (.func f) a c) (.func (.func f) a' c')
  | yield {l : Nat} {L : Loc} (h : ρ l = some L) : V ρ (.func (.yield l) #[] #[]) (.func (.yield L.b) #[] #[])
/-- Lists of values. -/
inductive VL (ρ : Rho) : List Value → List Value → Prop
  | nil : VL ρ [] []
  | cons {v v' : Value} {l l' : List Value} (h : V ρ v v') (t : VL ρ l l') : VL ρ (v :: l) (v' :: l')
/-- More is known. -/
def Ext (ρ ρ' : Rho) : Prop := ∀ r L, ρ r = some L → ρ' r = some L
theorem Ext.refl (ρ : Rho) : Ext ρ ρ := fun _ _ h => h
theorem Ext.trans {ρ ρ' ρ'' : Rho} (h : Ext ρ ρ') (h' : Ext ρ' ρ'') : Ext ρ ρ'' := fun r L x => h' r L (h r L x)
theorem V.mono {ρ ρ' : Rho} (e : Ext ρ ρ') {v v' : Value} (h : V ρ v v') : V ρ' v v' := by
  induction h with
  | junk v => exact .junk v
  | bool b => exact .bool b
  | int k n => exact .int k n
  | float k n => exact .float k n
  | string s => exact .string s
  | ptr0 => exact .ptr0
  | slice0 n c => exact .slice0 n c
  | map0 => exact .map0
  | nilFunc => exact .nilFunc
  | nilIface => exact .nilIface
  | ptr h hs ha => exact .ptr (e _ _ h) hs ha
  | sliceK h hs ha hc => exact .sliceK (e _ _ h) hs ha hc
  | sliceU h hs hc hc' hn ha => exact .sliceU (e _ _ h) hs hc hc' hn ha
  | map h => exact .map (e _ _ h)
  | iface t h ih => exact .iface t ih
  | agg hs h ih => exact .agg hs ih
  | tuple hs h ih => exact .tuple hs ih
  | func f hs ht h g ih ig => exact .func f hs ht ih ig
  | yield h => exact .yield (e _ _ h)
theorem VL.mono {ρ ρ' : Rho} (e : Ext ρ ρ') {l l' : List Value} (h : VL ρ l l') : VL ρ' l l' := by
  induction h with
  | nil => exact .nil
  | cons h t ih => exact .cons (h.mono e) ih
theorem VL.length {ρ : Rho} {l l' : List Value} (h : VL ρ l l') : l.length = l'.length := by
  induction h with
  | nil => rfl
  | cons h t ih => simp [ih]
theorem VL.get {ρ : Rho} {l l' : List Value} (h : VL ρ l l') : ∀ {i : Nat} {v : Value}, l[i]? = some v → ∃ v', l'[i]? = some v' ∧ V ρ v v' := by
  induction h with
  | nil => intro i v hv; simp at hv
  | cons h t ih =>
    intro i v hv
    cases i with
    | zero => simp at hv; subst hv; exact ⟨_, rfl, h⟩
    | succ i => simp at hv; simpa using ih hv
theorem VL.of_get {ρ : Rho} : ∀ {l l' : List Value}, l.length = l'.length → (∀ (i : Nat) (v v' : Value), l[i]? = some v → l'[i]? = some v' → V ρ v v') → VL ρ l l'
  | [], [], _, _ => .nil
  | [], _ :: _, h, _ => by simp at h
  | _ :: _, [], h, _ => by simp at h
  | v :: l, v' :: l', h, g => .cons (g 0 v v' rfl rfl) (VL.of_get (by simpa using h) (fun i x x' hx hx' => g (i + 1) x x' (by simpa using hx) (by simpa using hx')))
theorem VL.append {ρ : Rho} {l l' m m' : List Value} (h : VL ρ l l') (g : VL ρ m m') : VL ρ (l ++ m) (l' ++ m') := by
  induction h with
  | nil => exact g
  | cons h t ih => exact .cons h ih
theorem VL.drop {ρ : Rho} : ∀ {l l' : List Value} (n : Nat), VL ρ l l' → VL ρ (l.drop n) (l'.drop n)
  | l, l', 0, h => by simpa using h
  | _, _, n + 1, .nil => by simpa using VL.nil
  | _, _, n + 1, .cons h t => by simpa using t.drop n
theorem VL.take {ρ : Rho} : ∀ {l l' : List Value} (n : Nat), VL ρ l l' → VL ρ (l.take n) (l'.take n)
  | l, l', 0, h => by simpa using VL.nil
  | _, _, n + 1, .nil => by simpa using VL.nil
  | _, _, n + 1, .cons h t => by simpa using VL.cons h (t.take n)
theorem V.agg_mk {ρ : Rho} {cs cs' : Array Value} (h : VL ρ cs.toList cs'.toList) : V ρ (.agg cs) (.agg cs') := by
  have hl := h.length
  simp at hl
  refine .agg hl fun i hi hi' => ?_
  obtain ⟨v', hv, hV⟩ := h.get (i := i) (v := cs[i]) (by simp [hi])
  have : v' = cs'[i] := by simpa [hi'] using hv.symm
  exact this ▸ hV
theorem V.tuple_mk {ρ : Rho} {cs cs' : Array Value} (h : VL ρ cs.toList cs'.toList) : V ρ (.tuple cs) (.tuple cs') := by
  have hl := h.length
  simp at hl
  refine .tuple hl fun i hi hi' => ?_
  obtain ⟨v', hv, hV⟩ := h.get (i := i) (v := cs[i]) (by simp [hi])
  have : v' = cs'[i] := by simpa [hi'] using hv.symm
  exact this ▸ hV
theorem V.func_mk {ρ : Rho} (f : FuncId) {a a' c c' : Array Value} (h : VL ρ a.toList a'.toList) (g : VL ρ c.toList c'.toList) : V ρ (.func (.func f) a c) (.func (.func f) a' c') := by
  have hl := h.length
  have gl := g.length
  simp at hl gl
  refine .func f hl gl (fun i hi hi' => ?_) (fun i hi hi' => ?_)
  · obtain ⟨v', hv, hV⟩ := h.get (i := i) (v := a[i]) (by simp [hi])
    have : v' = a'[i] := by simpa [hi'] using hv.symm
    exact this ▸ hV
  · obtain ⟨v', hv, hV⟩ := g.get (i := i) (v := c[i]) (by simp [hi])
    have : v' = c'[i] := by simpa [hi'] using hv.symm
    exact this ▸ hV
theorem VL.of_arrays {ρ : Rho} {cs cs' : Array Value} (hs : cs.size = cs'.size) (h : ∀ (i : Nat) (h : i < cs.size) (h' : i < cs'.size), V ρ cs[i] cs'[i]) : VL ρ cs.toList cs'.toList := by
  refine VL.of_get (by simpa using hs) fun i v v' hv hv' => ?_
  have h1 := (List.getElem?_eq_some_iff.1 hv)
  have h2 := (List.getElem?_eq_some_iff.1 hv')
  obtain ⟨h1, rfl⟩ := h1
  obtain ⟨h2, rfl⟩ := h2
  exact h i (by simpa using h1) (by simpa using h2)
theorem V.agg_inv {ρ : Rho} {cs : Array Value} {v' : Value} (h : V ρ (.agg cs) v') : ∃ cs', v' = .agg cs' ∧ VL ρ cs.toList cs'.toList := by
  cases h with
  | agg hs h => exact ⟨_, rfl, VL.of_arrays hs h⟩
theorem V.tuple_inv {ρ : Rho} {cs : Array Value} {v' : Value} (h : V ρ (.tuple cs) v') : ∃ cs', v' = .tuple cs' ∧ VL ρ cs.toList cs'.toList := by
  cases h with
  | tuple hs h => exact ⟨_, rfl, VL.of_arrays hs h⟩
theorem V.func_inv {ρ : Rho} {f : FuncId} {a c : Array Value} {v' : Value} (h : V ρ (.func (.func f) a c) v') : ∃ a' c', v' = .func (.func f) a' c' ∧ VL ρ a.toList a'.toList ∧ VL ρ c.toList c'.toList := by
  cases h with
  | func _ hs ht h g => exact ⟨_, _, rfl, VL.of_arrays hs h, VL.of_arrays ht g⟩
/-- The cells of values that are related, if the abstract ones are known. -/
theorem V.cells {ρ : Rho} {v v' : Value} (h : V ρ v v') (ho : allOk v.cells.toList = true) : VL ρ v.cells.toList v'.cells.toList := by
  cases h with
  | agg hs h => exact VL.of_arrays hs h
  | junk v => simp [Value.cells, allOk, okc] at ho
  | tuple hs h => simp [Value.cells, allOk, okc] at ho
  | bool b => exact .cons (.bool b) .nil
  | int k n => exact .cons (.int k n) .nil
  | float k n => exact .cons (.float k n) .nil
  | string s => exact .cons (.string s) .nil
  | ptr0 => exact .cons .ptr0 .nil
  | slice0 n c => exact .cons (.slice0 n c) .nil
  | map0 => exact .cons .map0 .nil
  | nilFunc => exact .cons .nilFunc .nil
  | nilIface => exact .cons .nilIface .nil
  | ptr h hs ha => exact .cons (.ptr h hs ha) .nil
  | sliceK h hs ha hc => exact .cons (.sliceK h hs ha hc) .nil
  | sliceU h hs hc hc' hn ha => exact .cons (.sliceU h hs hc hc' hn ha) .nil
  | map h => exact .cons (.map h) .nil
  | iface t h => exact .cons (.iface t h) .nil
  | func f hs ht h g => exact .cons (.func f hs ht h g) .nil
  | yield h => exact .cons (.yield h) .nil
theorem V.one {ρ : Rho} {v v' : Value} (h : V ρ v v') (ho : okc v = true) : v'.oneCell' = true := by
  cases h <;> first | rfl | simp [okc] at ho
theorem allOk_mem : ∀ {l : List Value}, allOk l = true → ∀ v ∈ l, okc v = true
  | [], _, v, hv => by simp at hv
  | x :: r, h, v, hv => by
    simp only [allOk] at h
    split at h
    · rename_i hx
      rcases List.mem_cons.1 hv with rfl | hv
      · exact hx
      · exact allOk_mem h v hv
    · simp at h
theorem VL.one {ρ : Rho} {l l' : List Value} (h : VL ρ l l') (ho : allOk l = true) : ∀ v ∈ l', v.oneCell' = true := by
  intro v' hv'
  obtain ⟨i, hi⟩ := List.mem_iff_getElem?.1 hv'
  have hlen := h.length
  have hlt : i < l'.length := (List.getElem?_eq_some_iff.1 hi).1
  obtain ⟨v, hv⟩ : ∃ v, l[i]? = some v := ⟨l[i]'(by omega), by simp⟩
  obtain ⟨u, hu, hV⟩ := h.get hv
  rw [hi] at hu
  cases hu
  exact hV.one (allOk_mem ho v (List.mem_of_getElem? hv))

/-! ### Flat values -/
theorem V.flat1 {ρ : Rho} {v v' : Value} (h : V ρ v v') (hf : flat1 v = true) : v' = v := by
  cases h <;> first | rfl | simp [Ev.flat1] at hf
theorem V.flatN {ρ : Rho} : ∀ (n : Nat) {v v' : Value}, V ρ v v' → Ev.flatN n v = true → v' = v
  | 0, v, v', _, hf => by simp [Ev.flatN] at hf
  | n + 1, v, v', h, hf => by
    have arr : ∀ {cs cs' : Array Value}, cs.size = cs'.size → (∀ (i : Nat) (h : i < cs.size) (h' : i < cs'.size), V ρ cs[i] cs'[i]) → cs.toList.all (Ev.flatN n) = true → cs' = cs := by
      intro cs cs' hs h hf
      apply Array.ext hs.symm
      intro i h1 h2
      have hm : cs[i] ∈ cs.toList := by simp
      exact V.flatN n (h i h2 h1) (List.all_eq_true.1 hf _ hm)
    cases h with
    | iface t h => simp only [Ev.flatN] at hf; rw [V.flatN n h hf]
    | agg hs h => simp only [Ev.flatN] at hf; rw [arr hs h hf]
    | tuple hs h => simp only [Ev.flatN] at hf; rw [arr hs h hf]
    | func f hs ht h g =>
      rename_i a a' c c'
      simp only [Ev.flatN] at hf
      split at hf
      · rename_i ha hc
        have ha' : a = #[] := by simpa using ha
        have hc' : c = #[] := by simpa using hc
        subst ha' hc'
        have h1 : a' = #[] := by simpa using hs.symm
        have h2 : c' = #[] := by simpa using ht.symm
        rw [h1, h2]
      · simp at hf
    | junk v => simp [Ev.flatN, Ev.flat1] at hf
    | bool b => rfl
    | int k n => rfl
    | float k n => rfl
    | string s => rfl
    | ptr0 => rfl
    | slice0 n c => rfl
    | map0 => rfl
    | nilFunc => rfl
    | nilIface => rfl
    | ptr h hs ha => simp [Ev.flatN, Ev.flat1] at hf
    | sliceK h hs ha hc => simp [Ev.flatN, Ev.flat1] at hf
    | sliceU h hs hc hc' hn ha => simp [Ev.flatN, Ev.flat1] at hf
    | map h => simp [Ev.flatN, Ev.flat1] at hf
    | yield h => simp [Ev.flatN, Ev.flat1] at hf
theorem V.of_flat1 (ρ : Rho) {v : Value} (hf : Ev.flat1 v = true) : V ρ v v := by
  cases v with
  | bool b => exact .bool b
  | int k n => exact .int k n
  | float k n => exact .float k n
  | string s => exact .string s
  | pointer a => cases a with
    | none => exact .ptr0
    | some a => simp [Ev.flat1] at hf
  | slice a n c => cases a with
    | none => exact .slice0 n c
    | some a => simp [Ev.flat1] at hf
  | map r => cases r with
    | none => exact .map0
    | some a => simp [Ev.flat1] at hf
  | nilFunc => exact .nilFunc
  | nilIface => exact .nilIface
  | _ => simp [Ev.flat1] at hf
theorem V.of_flatN (ρ : Rho) : ∀ (n : Nat) {v : Value}, Ev.flatN n v = true → V ρ v v
  | 0, v, hf => by simp [Ev.flatN] at hf
  | n + 1, v, hf => by
    have arr : ∀ {cs : Array Value}, cs.toList.all (Ev.flatN n) = true → ∀ (i : Nat) (h : i < cs.size) (h' : i < cs.size), V ρ cs[i] cs[i] := by
      intro cs hf i h _
      have hm : cs[i] ∈ cs.toList := by simp
      exact V.of_flatN ρ n (List.all_eq_true.1 hf _ hm)
    cases v with
    | iface t v => simp only [Ev.flatN] at hf; exact .iface t (V.of_flatN ρ n hf)
    | agg cs => simp only [Ev.flatN] at hf; exact .agg rfl (arr hf)
    | tuple cs => simp only [Ev.flatN] at hf; exact .tuple rfl (arr hf)
    | func fn a c =>
      cases fn with
      | func f =>
        simp only [Ev.flatN] at hf
        split at hf
        · rename_i ha hc
          have ha' : a = #[] := by simpa using ha
          have hc' : c = #[] := by simpa using hc
          subst ha' hc'
          exact .func f rfl rfl (fun i h => absurd h (by simp)) (fun i h => absurd h (by simp))
        · simp at hf
      | _ => simp [Ev.flatN, Ev.flat1] at hf
    | _ => exact V.of_flat1 ρ (by simpa only [Ev.flatN] using hf)
theorem V.flat {ρ : Rho} {v v' : Value} (h : V ρ v v') (hf : Ev.flat v = true) : v' = v := V.flatN 8 h hf
theorem V.of_flat (ρ : Rho) {v : Value} (hf : Ev.flat v = true) : V ρ v v := V.of_flatN ρ 8 hf

/-! ### Surely the same -/
theorem eqL_sound {f : Value → Value → Bool} (hf : ∀ a b, f a b = true → a = b) : ∀ {l m : List Value}, eqL f l m = true → l = m
  | [], [], _ => rfl
  | [], _ :: _, h => by simp [eqL] at h
  | _ :: _, [], h => by simp [eqL] at h
  | x :: r, y :: s, h => by
    simp only [eqL, Bool.and_eq_true] at h
    rw [hf _ _ h.1, eqL_sound hf h.2]
theorem eqN_sound : ∀ (n : Nat) (v w : Value), eqN n v w = true → v = w
  | 0, v, w, h => by simp [eqN] at h
  | n + 1, v, w, h => by
    have ih := eqN_sound n
    unfold eqN at h
    split at h
    all_goals try (simp at h; done)
    all_goals try (cases ‹_ + 1 = _›)
    all_goals try simp only [Bool.and_eq_true, decide_eq_true_eq, beq_iff_eq, Nat.beq_eq] at h
    · rename_i a b; rw [h]
    · rename_i j a k b; rw [h.1, h.2]
    · rename_i j a k b; rw [h.1, h.2]
    · rename_i a b
      have : a.data = b.data := by simpa using congrArg List.toArray h
      cases a; cases b; simp at this; rw [this]
    · rename_i a b; rw [h]
    · rename_i a n c b m d; rw [h.1.1, h.1.2, h.2]
    · rename_i a b; rw [h]
    · rfl
    · rfl
    · rename_i t v u w; rw [h.1, ih _ _ h.2]
    · rename_i a b
      have := eqL_sound ih h
      rw [Array.toList_inj.1 this]
    · rename_i a b
      have := eqL_sound ih h
      rw [Array.toList_inj.1 this]
    · rename_i f a c g b d
      rw [h.1.1, Array.toList_inj.1 (eqL_sound ih h.1.2), Array.toList_inj.1 (eqL_sound ih h.2)]
theorem eqV_sound {v w : Value} (h : eqV v w = true) : v = w := eqN_sound 8 v w h

theorem blt_t {a b : Nat} (h : Nat.blt a b = true) : a < b := by simpa using h
theorem blt_f {a b : Nat} (h : Nat.blt a b = false) : b ≤ a := by
  rcases Nat.lt_or_ge a b with h1 | h1
  · have : Nat.blt a b = true := by simpa using h1
    rw [this] at h; cases h
  · exact h1
theorem ble_f {a b : Nat} (h : Nat.ble a b = false) : b < a := by
  rcases Nat.lt_or_ge b a with h1 | h1
  · exact h1
  · have : Nat.ble a b = true := by simpa using h1
    rw [this] at h; cases h
theorem beq_f {a b : Nat} (h : Nat.beq a b = false) : a ≠ b := by
  intro h1
  have : Nat.beq a b = true := by simpa using h1
  rw [this] at h; cases h
theorem beq_ne {a b : Nat} (h : a ≠ b) : Nat.beq a b = false := by
  cases hq : Nat.beq a b with
  | false => rfl
  | true => exact absurd (by simpa using hq) h
/-! ### Lists -/
theorem lget_eq : ∀ (l : List Value) (i : Nat), lget l i = l[i]?
  | [], i => by simp [lget]
  | x :: r, 0 => rfl
  | x :: r, i + 1 => by simp [lget, lget_eq r i]
theorem ldrop_eq : ∀ (l : List Value) (n : Nat), ldrop l n = l.drop n
  | l, 0 => by cases l <;> rfl
  | [], n + 1 => by simp [ldrop]
  | x :: r, n + 1 => by simp [ldrop, ldrop_eq r n]
theorem ltake_eq : ∀ (l : List Value) (n : Nat) {m : List Value}, ltake l n = some m → n ≤ l.length ∧ m = l.take n
  | l, 0, m, h => by cases l <;> (simp [ltake] at h; simp [h])
  | [], n + 1, m, h => by simp [ltake] at h
  | x :: r, n + 1, m, h => by
    simp only [ltake] at h
    split at h
    · rename_i l hl
      obtain ⟨h1, rfl⟩ := ltake_eq r n hl
      cases h
      exact ⟨by simp; omega, by simp⟩
    · simp at h
theorem lover_eq : ∀ (l vs : List Value) {m : List Value}, lover l vs = some m → vs.length ≤ l.length ∧ m = vs ++ l.drop vs.length
  | l, [], m, h => by cases l <;> (simp [lover] at h; simp [h])
  | [], v :: vs, m, h => by simp [lover] at h
  | x :: r, v :: vs, m, h => by
    simp only [lover] at h
    split at h
    · rename_i l hl
      obtain ⟨h1, rfl⟩ := lover_eq r vs hl
      cases h
      exact ⟨by simp; omega, by simp⟩
    · simp at h
theorem lput_eq : ∀ (l : List Value) (i : Nat) (vs : List Value) {m : List Value}, lput l i vs = some m → i + vs.length ≤ l.length ∧ m = l.take i ++ vs ++ l.drop (i + vs.length)
  | l, 0, vs, m, h => by
    have h' : lover l vs = some m := by cases l <;> exact h
    obtain ⟨h1, rfl⟩ := lover_eq l vs h'
    simp [h1]
  | [], i + 1, vs, m, h => by simp [lput] at h
  | x :: r, i + 1, vs, m, h => by
    simp only [lput] at h
    split at h
    · rename_i l hl
      obtain ⟨h1, rfl⟩ := lput_eq r i vs hl
      cases h
      refine ⟨by simp; omega, ?_⟩
      rw [show i + 1 + vs.length = (i + vs.length) + 1 by omega]
      simp
    · simp at h
end Go.Ev
end
