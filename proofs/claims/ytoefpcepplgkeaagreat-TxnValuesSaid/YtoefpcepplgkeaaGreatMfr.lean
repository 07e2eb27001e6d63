/- Long runs, for the kernel: the state is laid open every sixteen steps. -/
import Derived.Test.YtoefpcepplgkeaaGreatMf
section
set_option linter.unusedVariables false
namespace Go.Ev
open Go Go.RowKit
noncomputable section
def fN {α : Type} (n : Nat) (k : Nat → α) : α := Nat.rec (motive := fun _ => α) (k 0) (fun m _ => k (m + 1)) n
def fL {β α : Type} (l : List β) (k : List β → α) : α := match l with
  | [] => k []
  | x :: r => k (x :: r)
def fM {α : Type} (m : FrameMode) (k : FrameMode → α) : α := match m with
  | .run => k .run
  | .returning => k .returning
  | .panicking c => k (.panicking c)
def fK {α : Type} (m : CallKind) (k : CallKind → α) : α := match m with
  | .normal => k .normal
  | .deferred => k .deferred
  | m => k m
def fO {α : Type} (m : Option Nat) (k : Option Nat → α) : α := match m with
  | none => k none
  | some x => fN x fun x => k (some x)
def fS {α : Type} (s : AS) (k : AS → α) : α := match s with
  | ⟨⟨id, nt, res, tmps, todo, defers, mode, kind, round, gl⟩, cs, ⟨t, next⟩⟩ =>
    fN id fun id => fN nt fun nt => fN gl fun gl => fN next fun next => fL res fun res => fL todo fun todo => fL defers fun defers => fM mode fun mode => fK kind fun kind => fO round fun round => fL cs fun cs =>
      k ⟨⟨id, nt, res, tmps, todo, defers, mode, kind, round, gl⟩, cs, ⟨t, next⟩⟩
def runB (b : Tb) (orc : List Orc) (n : Nat) : AS → Out := Nat.rec (motive := fun _ => AS → Out) (fun s => .go s) (fun _ ih s => match Ev.run b orc 16 s with
  | .go s' => fS s' ih
  | o => o) n
end
theorem fN_eq {α : Type} (n : Nat) (k : Nat → α) : fN n k = k n := by cases n <;> rfl
theorem fL_eq {β α : Type} (l : List β) (k : List β → α) : fL l k = k l := by cases l <;> rfl
theorem fM_eq {α : Type} (m : FrameMode) (k : FrameMode → α) : fM m k = k m := by cases m <;> rfl
theorem fK_eq {α : Type} (m : CallKind) (k : CallKind → α) : fK m k = k m := by cases m <;> rfl
theorem fO_eq {α : Type} (m : Option Nat) (k : Option Nat → α) : fO m k = k m := by cases m <;> simp [fO, fN_eq]
theorem fS_eq {α : Type} (s : AS) (k : AS → α) : fS s k = k s := by
  obtain ⟨⟨id, nt, res, tmps, todo, defers, mode, kind, round, gl⟩, cs, ⟨t, next⟩⟩ := s
  simp only [fS, fN_eq, fL_eq, fM_eq, fK_eq, fO_eq]
theorem run_succ (b : Tb) (orc : List Orc) (n : Nat) (s : AS) : Ev.run b orc (n + 1) s = (match Ev.step b orc s with | .go s => Ev.run b orc n s | o => o) := rfl
theorem run_add (b : Tb) (orc : List Orc) : ∀ (n m : Nat) (s : AS), Ev.run b orc (n + m) s = (match Ev.run b orc n s with | .go s' => Ev.run b orc m s' | o => o)
  | 0, m, s => by rw [Nat.zero_add]; rfl
  | n + 1, m, s => by
    rw [show n + 1 + m = (n + m) + 1 by omega, run_succ, run_succ]
    cases Ev.step b orc s with
    | go s' => exact run_add b orc n m s'
    | done v s' => rfl
    | bad w => rfl
theorem runB_succ (b : Tb) (orc : List Orc) (n : Nat) (s : AS) : runB b orc (n + 1) s = (match Ev.run b orc 16 s with | .go s' => fS s' (runB b orc n) | o => o) := rfl
theorem runB_run (b : Tb) (orc : List Orc) : ∀ (n : Nat) (s : AS), runB b orc n s = Ev.run b orc (16 * n) s
  | 0, s => rfl
  | n + 1, s => by
    rw [runB_succ, show 16 * (n + 1) = 16 + 16 * n by omega, run_add]
    cases Ev.run b orc 16 s with
    | go s' => simp only [fS_eq]; exact runB_run b orc n s'
    | done v s' => rfl
    | bad w => rfl
/-- As outcome, sixteen steps at once. -/
noncomputable def outcomeB (b : Tb) (orc : List Orc) (n : Nat) (h : H) (f : FuncId) (args : List Value) : Option Value := match start b h f args with
  | some s => match runB b orc n s with
    | .done v s' => match flat v, Nat.beq s'.f.id f with
      | true, true => some v
      | _, _ => none
    | _ => none
  | none => none
theorem outcomeB_eq (b : Tb) (orc : List Orc) (n : Nat) (h : H) (f : FuncId) (args : List Value) : outcomeB b orc n h f args = outcome b orc (16 * n) h f args := by
  unfold outcomeB outcome
  simp only [runB_run]
  rfl
end Go.Ev
end
