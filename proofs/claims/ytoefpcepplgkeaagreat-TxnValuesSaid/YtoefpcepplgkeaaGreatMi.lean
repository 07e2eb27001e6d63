/- Closed runs of this seat; bits.RotateLeft32 at the counts of SHA-256. SHA-256: what is known of its parts. -/
import Derived.Test.YtoefpcepplgkeaaGreatMf
import Derived.Test.YtoefpcepplgkeaaGreatMh
import Derived.Test.YtoefpcepplgkeaaGreatMfr
section
set_option maxRecDepth 100000
namespace Go.Proofs.YtoefpcepplgkeaaGreat
open Go Go.Ev Go.RowKit
/-- What a call whose result is known must be. -/
def Fact (o : Orc) : Prop := ∀ args v, flatL args = true → o.args args = some v → flat v = true → ∀ w : World, Calls Tryz.prog o.f args.toArray w fun e w' => e = .returned v ∧ Below w.heap.size w w'
theorem facts {orc : List Orc} (h : ∀ o ∈ orc, Fact o) (w0 : World) : OrcOk tab w0 orc := fun o ho args v h1 h2 h3 w _ => h o ho args v h1 h2 h3 w
theorem glNone : GlOk tab (fun _ => none) := fun g hg => by
  have h : (0 : Nat).testBit g = true := hg
  simp at h
theorem closed {orc : List Orc} {n f : Nat} {args : List Value} {v : Value} (ho : ∀ o ∈ orc, Fact o) (ha : flatL args = true) (hx : outcome tab orc n ⟨.e, 0⟩ f args = some v) (w : World) :
    Calls Tryz.prog f args.toArray w fun e w' => e = .returned v ∧ Below w.heap.size w w' :=
  outcome_ok tabOk (facts ho w) (HR.empty w) glNone ha hx
theorem noFacts : ∀ o ∈ ([] : List Orc), Fact o := fun o h => by simp at h
/-- A rotation of a word by s places. -/
noncomputable def rotV (x : Int) (s : Nat) : Value := .int .u32 (IntKind.u32.wrap ↑(BitVec.ofInt 32 (IntKind.u32.wrap (x * 2 ^ s)) ||| BitVec.ofInt 32 (x.fdiv (2 ^ (32 - s)))).toNat)
noncomputable def rotK : Int → Option Nat
  | .negSucc 1 => some 30
  | .negSucc 5 => some 26
  | .negSucc 6 => some 25
  | .negSucc 10 => some 21
  | .negSucc 12 => some 19
  | .negSucc 16 => some 15
  | .negSucc 17 => some 14
  | .negSucc 18 => some 13
  | .negSucc 21 => some 10
  | .negSucc 24 => some 7
  | _ => none
noncomputable def rotO : Orc := ⟨325, fun a => match a with
  | [.int .u32 x, .int .i64 k] => match rotK k with
    | some s => some (rotV x s)
    | none => none
  | _ => none⟩
theorem rot2 (x : Int) : outcome tab [] 100 ⟨.e, 0⟩ 325 [.int .u32 x, .int .i64 (.negSucc 1)] = some (rotV x 30) := by kernel_rfl
theorem rot6 (x : Int) : outcome tab [] 100 ⟨.e, 0⟩ 325 [.int .u32 x, .int .i64 (.negSucc 5)] = some (rotV x 26) := by kernel_rfl
theorem rot7 (x : Int) : outcome tab [] 100 ⟨.e, 0⟩ 325 [.int .u32 x, .int .i64 (.negSucc 6)] = some (rotV x 25) := by kernel_rfl
theorem rot11 (x : Int) : outcome tab [] 100 ⟨.e, 0⟩ 325 [.int .u32 x, .int .i64 (.negSucc 10)] = some (rotV x 21) := by kernel_rfl
theorem rot13 (x : Int) : outcome tab [] 100 ⟨.e, 0⟩ 325 [.int .u32 x, .int .i64 (.negSucc 12)] = some (rotV x 19) := by kernel_rfl
theorem rot17 (x : Int) : outcome tab [] 100 ⟨.e, 0⟩ 325 [.int .u32 x, .int .i64 (.negSucc 16)] = some (rotV x 15) := by kernel_rfl
theorem rot18 (x : Int) : outcome tab [] 100 ⟨.e, 0⟩ 325 [.int .u32 x, .int .i64 (.negSucc 17)] = some (rotV x 14) := by kernel_rfl
theorem rot19 (x : Int) : outcome tab [] 100 ⟨.e, 0⟩ 325 [.int .u32 x, .int .i64 (.negSucc 18)] = some (rotV x 13) := by kernel_rfl
theorem rot22 (x : Int) : outcome tab [] 100 ⟨.e, 0⟩ 325 [.int .u32 x, .int .i64 (.negSucc 21)] = some (rotV x 10) := by kernel_rfl
theorem rot25 (x : Int) : outcome tab [] 100 ⟨.e, 0⟩ 325 [.int .u32 x, .int .i64 (.negSucc 24)] = some (rotV x 7) := by kernel_rfl
theorem rot_fact : Fact rotO := by
  intro args v h1 h2 h3 w
  simp only [rotO] at h2
  split at h2
  · rename_i x k
    split at h2
    · rename_i s hs
      cases h2
      unfold rotK at hs
      split at hs
      · cases hs; exact closed noFacts rfl (rot2 x) w
      · cases hs; exact closed noFacts rfl (rot6 x) w
      · cases hs; exact closed noFacts rfl (rot7 x) w
      · cases hs; exact closed noFacts rfl (rot11 x) w
      · cases hs; exact closed noFacts rfl (rot13 x) w
      · cases hs; exact closed noFacts rfl (rot17 x) w
      · cases hs; exact closed noFacts rfl (rot18 x) w
      · cases hs; exact closed noFacts rfl (rot19 x) w
      · cases hs; exact closed noFacts rfl (rot22 x) w
      · cases hs; exact closed noFacts rfl (rot25 x) w
      · cases hs
    · cases h2
  · cases h2
end Go.Proofs.YtoefpcepplgkeaaGreat
end

section
set_option maxRecDepth 100000
namespace Go.Proofs.YtoefpcepplgkeaaGreat
open Go Go.Ev Go.RowKit
noncomputable def u8s : List Nat → List Value
  | [] => []
  | n :: r => .int .u8 n :: u8s r
noncomputable def u32s : List Nat → List Value
  | [] => []
  | n :: r => .int .u32 n :: u32s r
noncomputable def u64s : List Nat → List Value
  | [] => []
  | n :: r => .int .u64 n :: u64s r
noncomputable def primesV : Value := .agg (u64s [2,3,5,7,11,13,17,19,23,29,31,37,41,43,47,53,59,61,67,71,73,79,83,89,97,101,103,107,109,113,127,131,137,139,149,151,157,163,167,173,179,181,191,193,197,199,211,223,227,229,233,239,241,251,257,263,269,271,277,281,283,293,307,311]).toArray
noncomputable def constsV : Value := .tuple #[.agg (u32s [1779033703,3144134277,1013904242,2773480762,1359893119,2600822924,528734635,1541459225]).toArray, .agg (u32s [1116352408,1899447441,3049323471,3921009573,961987163,1508970993,2453635748,2870763221,3624381080,310598401,607225278,1426881987,1925078388,2162078206,2614888103,3248222580,3835390401,4022224774,264347078,604807628,770255983,1249150122,1555081692,1996064986,2554220882,2821834349,2952996808,3210313671,3336571891,3584528711,113926993,338241895,666307205,773529912,1294757372,1396182291,1695183700,1986661051,2177026350,2456956037,2730485921,2820302411,3259730800,3345764771,3516065817,3600352804,4094571909,275423344,430227734,506948616,659060556,883997877,958139571,1322822218,1537002063,1747873779,1955562222,2024104815,2227730452,2361852424,2428436474,2756734187,3204031479,3329325298]).toArray]
noncomputable def primesO : Orc := ⟨295, fun a => match a with
  | [] => some primesV
  | _ => none⟩
noncomputable def constsO : Orc := ⟨274, fun a => match a with
  | [] => some constsV
  | _ => none⟩
/-- Whether a run gives a value. -/
noncomputable def gives (v : Value) (o : Option Value) : Bool := match o with
  | some w => eqV w v
  | none => false
theorem gives_ok {v : Value} {o : Option Value} (h : gives v o = true) : o = some v := by
  unfold gives at h
  split at h
  · rw [eqV_sound h]
  · cases h
theorem one_fact {o : Orc} (h : Fact o) : ∀ p ∈ [o], Fact p := fun p hp => by
  simp at hp; subst hp; exact h
theorem two_facts {o p : Orc} (h : Fact o) (g : Fact p) : ∀ q ∈ [o, p], Fact q := fun q hq => by
  simp at hq; rcases hq with rfl | rfl
  · exact h
  · exact g
/-- A call without arguments. -/
theorem fact0 {f n : Nat} {v : Value} {orc : List Orc} (ho : ∀ o ∈ orc, Fact o) (h : gives v (outcomeB tab orc n ⟨.e, 0⟩ f []) = true) : Fact ⟨f, fun a => match a with | [] => some v | _ => none⟩ := by
  intro args u h1 h2 h3 w
  simp only at h2
  split at h2
  · cases h2; exact closed ho rfl (by rw [← outcomeB_eq]; exact gives_ok h) w
  · cases h2
end Go.Proofs.YtoefpcepplgkeaaGreat
end
