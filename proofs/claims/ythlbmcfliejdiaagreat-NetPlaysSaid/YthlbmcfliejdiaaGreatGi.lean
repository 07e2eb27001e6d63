/- The calls of sane, each at its numbers. (Printed by wip/gen_sane.py.). '==' of letters, links, timers and acts, as one Bool. (Printed by wip/gen_eqs.py.). The contract of sane: the examples of the chapter. (Printed by wip/gen_sane.py.). -/
import Derived.Test.YthlbmcfliejdiaaGreatGh
import Derived.Test.YthlbmcfliejdiaaGreatGa
section
set_option linter.unusedVariables false
set_option linter.unusedSimpArgs false
namespace Go.Proofs.YthlbmcfliejdiaaGreat
open Go.RowKit

def xN3 : Nt := ⟨3, 0, 0, [], [], []⟩
theorem okN3 : Ok xN3 := (ok_iff _).1 (by decide +kernel)
def xY : Nt := ⟨3, 0, 1, [⟨0, 0, 2, 0, ⟨#[97]⟩⟩], [], []⟩
theorem okY : Ok xY := (ok_iff _).1 (by decide +kernel)
def xZ : Nt := ⟨3, 0, 1, [], [], []⟩
theorem okZ : Ok xZ := (ok_iff _).1 (by decide +kernel)
def xW : Nt := ⟨3, 0, 1, [⟨0, 0, 2, 2, ⟨#[97]⟩⟩], [], []⟩
theorem okW : Ok xW := (ok_iff _).1 (by decide +kernel)
def xC : Nt := ⟨3, 0, 1, [⟨0, 0, 2, 0, ⟨#[97]⟩⟩], [⟨0, 2⟩], []⟩
theorem okC : Ok xC := (ok_iff _).1 (by decide +kernel)
def xS : Nt := ⟨3, 0, 0, [], [], [⟨2, 1, 7⟩]⟩
theorem okS : Ok xS := (ok_iff _).1 (by decide +kernel)
def xS1 : Nt := ⟨3, 1, 0, [], [], [⟨2, 1, 7⟩]⟩
theorem okS1 : Ok xS1 := (ok_iff _).1 (by decide +kernel)
def xS2 : Nt := ⟨3, 2, 0, [], [], []⟩
def xP : Nt := ⟨2, 0, 1, [⟨0, 0, 1, 0, ⟨#[]⟩⟩], [], []⟩
def xE : Nt := ⟨0, 0, 0, [], [], []⟩
theorem eq_send : sendM xN3 0 2 ⟨#[97]⟩ = (⟨xY, 0, ⟨0, 0, 2, 0, ⟨#[97]⟩⟩, [], 0⟩ : Rs) := by decide +kernel
theorem i_send (v : Value) (w : World) (hV : NetV w v xN3) : Calls Tryz.prog 7 #[v, .int .i64 0, .int .i64 2, .string ⟨#[97]⟩] w fun e w' => ∃ AW cW AC cC AT cT, e = .returned (.tuple #[.agg #[.int .i64 3, .int .i64 0, .int .i64 1, .slice AW 1 cW, .slice AC 0 cC, .slice AT 0 cT], .int .i64 0, .int .i64 0]) ∧ NetO w' w.heap.size (.agg #[.int .i64 3, .int .i64 0, .int .i64 1, .slice AW 1 cW, .slice AC 0 cC, .slice AT 0 cT]) xY ∧ Below w.heap.size w w' := by
  refine (Send_good xN3 0 2 ⟨#[97]⟩ v w hV okN3).mono fun e w' h => ?_
  rw [eq_send] at h
  obtain ⟨v', he, ⟨AW, cW, AC, cC, AT, cT, rfl, h1, h2, h3⟩, hb⟩ := h
  exact ⟨AW, cW, AC, cC, AT, cT, he, ⟨AW, cW, AC, cC, AT, cT, rfl, h1, h2, h3⟩, hb⟩

theorem eq_dlv1 : deliverM xY 0 = (⟨xZ, 0, ⟨0, 0, 2, 0, ⟨#[97]⟩⟩, [], 0⟩ : Rs) := by decide +kernel
theorem i_dlv1 (v : Value) (w : World) (hV : NetV w v xY) : Calls Tryz.prog 10 #[v, .int .i64 0] w fun e w' => ∃ AW cW AC cC AT cT, e = .returned (.tuple #[.agg #[.int .i64 3, .int .i64 0, .int .i64 1, .slice AW 0 cW, .slice AC 0 cC, .slice AT 0 cT], .agg #[.int .i64 0, .int .i64 0, .int .i64 2, .int .i64 0, .string ⟨#[97]⟩], .int .i64 0]) ∧ NetO w' w.heap.size (.agg #[.int .i64 3, .int .i64 0, .int .i64 1, .slice AW 0 cW, .slice AC 0 cC, .slice AT 0 cT]) xZ ∧ Below w.heap.size w w' := by
  refine (Deliver_good xY 0 v w hV okY).mono fun e w' h => ?_
  rw [eq_dlv1] at h
  obtain ⟨v', he, ⟨AW, cW, AC, cC, AT, cT, rfl, h1, h2, h3⟩, hb⟩ := h
  exact ⟨AW, cW, AC, cC, AT, cT, he, ⟨AW, cW, AC, cC, AT, cT, rfl, h1, h2, h3⟩, hb⟩

theorem eq_dlv2 : deliverM xZ 0 = (⟨xE, 0, zLt, [], 4⟩ : Rs) := by decide +kernel
theorem i_dlv2 (v : Value) (w : World) (hV : NetV w v xZ) : Calls Tryz.prog 10 #[v, .int .i64 0] w fun e w' => ∃ AW cW AC cC AT cT, e = .returned (.tuple #[.agg #[.int .i64 0, .int .i64 0, .int .i64 0, .slice AW 0 cW, .slice AC 0 cC, .slice AT 0 cT], .agg #[.int .i64 0, .int .i64 0, .int .i64 0, .int .i64 0, .string ⟨#[]⟩], .int .i64 4]) ∧ NetO w' w.heap.size (.agg #[.int .i64 0, .int .i64 0, .int .i64 0, .slice AW 0 cW, .slice AC 0 cC, .slice AT 0 cT]) xE ∧ Below w.heap.size w w' := by
  refine (Deliver_good xZ 0 v w hV okZ).mono fun e w' h => ?_
  rw [eq_dlv2] at h
  obtain ⟨v', he, ⟨AW, cW, AC, cC, AT, cT, rfl, h1, h2, h3⟩, hb⟩ := h
  exact ⟨AW, cW, AC, cC, AT, cT, he, ⟨AW, cW, AC, cC, AT, cT, rfl, h1, h2, h3⟩, hb⟩

theorem eq_dlv3 : deliverM xW 0 = (⟨xE, 0, zLt, [], 6⟩ : Rs) := by decide +kernel
theorem i_dlv3 (v : Value) (w : World) (hV : NetV w v xW) : Calls Tryz.prog 10 #[v, .int .i64 0] w fun e w' => ∃ AW cW AC cC AT cT, e = .returned (.tuple #[.agg #[.int .i64 0, .int .i64 0, .int .i64 0, .slice AW 0 cW, .slice AC 0 cC, .slice AT 0 cT], .agg #[.int .i64 0, .int .i64 0, .int .i64 0, .int .i64 0, .string ⟨#[]⟩], .int .i64 6]) ∧ NetO w' w.heap.size (.agg #[.int .i64 0, .int .i64 0, .int .i64 0, .slice AW 0 cW, .slice AC 0 cC, .slice AT 0 cT]) xE ∧ Below w.heap.size w w' := by
  refine (Deliver_good xW 0 v w hV okW).mono fun e w' h => ?_
  rw [eq_dlv3] at h
  obtain ⟨v', he, ⟨AW, cW, AC, cC, AT, cT, rfl, h1, h2, h3⟩, hb⟩ := h
  exact ⟨AW, cW, AC, cC, AT, cT, he, ⟨AW, cW, AC, cC, AT, cT, rfl, h1, h2, h3⟩, hb⟩

theorem eq_delay : formR xY (delayM xY 0 2) = (⟨xW, 0, ⟨0, 0, 2, 2, ⟨#[97]⟩⟩, [], 0⟩ : Rs) := by decide +kernel
theorem i_delay (v : Value) (w : World) (hV : NetV w v xY) : Calls Tryz.prog 16 #[v, .int .i64 0, .int .i64 2] w fun e w' => ∃ AW cW AC cC AT cT, e = .returned (.tuple #[.agg #[.int .i64 3, .int .i64 0, .int .i64 1, .slice AW 1 cW, .slice AC 0 cC, .slice AT 0 cT], .int .i64 0]) ∧ NetO w' w.heap.size (.agg #[.int .i64 3, .int .i64 0, .int .i64 1, .slice AW 1 cW, .slice AC 0 cC, .slice AT 0 cT]) xW ∧ Below w.heap.size w w' := by
  refine (Delay_any xY 0 2 v w (by decide) (by decide) (by decide) hV).mono fun e w' h => ?_
  rw [eq_delay] at h
  obtain ⟨v', he, ⟨AW, cW, AC, cC, AT, cT, rfl, h1, h2, h3⟩, hb⟩ := h
  exact ⟨AW, cW, AC, cC, AT, cT, he, ⟨AW, cW, AC, cC, AT, cT, rfl, h1, h2, h3⟩, hb⟩

theorem eq_cut1 : formR xY (cutM xY 2 0) = (⟨xC, 0, zLt, [], 0⟩ : Rs) := by decide +kernel
theorem i_cut1 (v : Value) (w : World) (hV : NetV w v xY) : Calls Tryz.prog 32 #[v, .int .i64 2, .int .i64 0] w fun e w' => ∃ AW cW AC cC AT cT, e = .returned (.tuple #[.agg #[.int .i64 3, .int .i64 0, .int .i64 1, .slice AW 1 cW, .slice AC 1 cC, .slice AT 0 cT], .int .i64 0]) ∧ NetO w' w.heap.size (.agg #[.int .i64 3, .int .i64 0, .int .i64 1, .slice AW 1 cW, .slice AC 1 cC, .slice AT 0 cT]) xC ∧ Below w.heap.size w w' := by
  refine (Cut_any xY 2 0 v w (by decide) (by decide) (by decide) hV).mono fun e w' h => ?_
  rw [eq_cut1] at h
  obtain ⟨v', he, ⟨AW, cW, AC, cC, AT, cT, rfl, h1, h2, h3⟩, hb⟩ := h
  exact ⟨AW, cW, AC, cC, AT, cT, he, ⟨AW, cW, AC, cC, AT, cT, rfl, h1, h2, h3⟩, hb⟩

theorem eq_cut2 : formR xC (cutM xC 0 2) = (⟨xE, 0, zLt, [], 5⟩ : Rs) := by decide +kernel
theorem i_cut2 (v : Value) (w : World) (hV : NetV w v xC) : Calls Tryz.prog 32 #[v, .int .i64 0, .int .i64 2] w fun e w' => ∃ AW cW AC cC AT cT, e = .returned (.tuple #[.agg #[.int .i64 0, .int .i64 0, .int .i64 0, .slice AW 0 cW, .slice AC 0 cC, .slice AT 0 cT], .int .i64 5]) ∧ NetO w' w.heap.size (.agg #[.int .i64 0, .int .i64 0, .int .i64 0, .slice AW 0 cW, .slice AC 0 cC, .slice AT 0 cT]) xE ∧ Below w.heap.size w w' := by
  refine (Cut_any xC 0 2 v w (by decide) (by decide) (by decide) hV).mono fun e w' h => ?_
  rw [eq_cut2] at h
  obtain ⟨v', he, ⟨AW, cW, AC, cC, AT, cT, rfl, h1, h2, h3⟩, hb⟩ := h
  exact ⟨AW, cW, AC, cC, AT, cT, he, ⟨AW, cW, AC, cC, AT, cT, rfl, h1, h2, h3⟩, hb⟩

theorem eq_set : formR xN3 (setM xN3 1 7 2) = (⟨xS, 0, zLt, [], 0⟩ : Rs) := by decide +kernel
theorem i_set (v : Value) (w : World) (hV : NetV w v xN3) : Calls Tryz.prog 34 #[v, .int .i64 1, .int .i64 7, .int .i64 2] w fun e w' => ∃ AW cW AC cC AT cT, e = .returned (.tuple #[.agg #[.int .i64 3, .int .i64 0, .int .i64 0, .slice AW 0 cW, .slice AC 0 cC, .slice AT 1 cT], .int .i64 0]) ∧ NetO w' w.heap.size (.agg #[.int .i64 3, .int .i64 0, .int .i64 0, .slice AW 0 cW, .slice AC 0 cC, .slice AT 1 cT]) xS ∧ Below w.heap.size w w' := by
  refine (Set_any xN3 1 7 2 v w (by decide) (by decide) (by decide) hV).mono fun e w' h => ?_
  rw [eq_set] at h
  obtain ⟨v', he, ⟨AW, cW, AC, cC, AT, cT, rfl, h1, h2, h3⟩, hb⟩ := h
  exact ⟨AW, cW, AC, cC, AT, cT, he, ⟨AW, cW, AC, cC, AT, cT, rfl, h1, h2, h3⟩, hb⟩

theorem eq_send2 : sendM xN3 1 1 ⟨#[]⟩ = (⟨xE, 0, zLt, [], 1⟩ : Rs) := by decide +kernel
theorem i_send2 (v : Value) (w : World) (hV : NetV w v xN3) : Calls Tryz.prog 7 #[v, .int .i64 1, .int .i64 1, .string ⟨#[]⟩] w fun e w' => ∃ AW cW AC cC AT cT, e = .returned (.tuple #[.agg #[.int .i64 0, .int .i64 0, .int .i64 0, .slice AW 0 cW, .slice AC 0 cC, .slice AT 0 cT], .int .i64 0, .int .i64 1]) ∧ NetO w' w.heap.size (.agg #[.int .i64 0, .int .i64 0, .int .i64 0, .slice AW 0 cW, .slice AC 0 cC, .slice AT 0 cT]) xE ∧ Below w.heap.size w w' := by
  refine (Send_good xN3 1 1 ⟨#[]⟩ v w hV okN3).mono fun e w' h => ?_
  rw [eq_send2] at h
  obtain ⟨v', he, ⟨AW, cW, AC, cC, AT, cT, rfl, h1, h2, h3⟩, hb⟩ := h
  exact ⟨AW, cW, AC, cC, AT, cT, he, ⟨AW, cW, AC, cC, AT, cT, rfl, h1, h2, h3⟩, hb⟩

theorem eq_tick1 : tickM xS = (⟨xS1, 0, zLt, [], 0⟩ : Rs) := by decide +kernel
theorem i_tick1 (v : Value) (w : World) (hV : NetV w v xS) : Calls Tryz.prog 35 #[v] w fun e w' => ∃ AW cW AC cC AT cT AU cU, e = .returned (.tuple #[.agg #[.int .i64 3, .int .i64 1, .int .i64 0, .slice AW 0 cW, .slice AC 0 cC, .slice AT 1 cT], .slice AU 0 cU, .int .i64 0]) ∧ NetO w' w.heap.size (.agg #[.int .i64 3, .int .i64 1, .int .i64 0, .slice AW 0 cW, .slice AC 0 cC, .slice AT 1 cT]) xS1 ∧ Below w.heap.size w w' ∧ Rd w' AU ([] : List Tm) := by
  refine (Tick_good xS v w hV okS).mono fun e w' h => ?_
  rw [eq_tick1] at h
  obtain ⟨v', u, he, hu, ⟨AW, cW, AC, cC, AT, cT, rfl, h1, h2, h3⟩, hb⟩ := h
  obtain ⟨AU, cU, rfl, -, hr⟩ := hu.slice
  exact ⟨AW, cW, AC, cC, AT, cT, AU, cU, he, ⟨AW, cW, AC, cC, AT, cT, rfl, h1, h2, h3⟩, hb, hr⟩

theorem eq_tick2 : tickM xS1 = (⟨xS2, 0, zLt, [⟨2, 1, 7⟩], 0⟩ : Rs) := by decide +kernel
theorem i_tick2 (v : Value) (w : World) (hV : NetV w v xS1) : Calls Tryz.prog 35 #[v] w fun e w' => ∃ AW cW AC cC AT cT AU cU, e = .returned (.tuple #[.agg #[.int .i64 3, .int .i64 2, .int .i64 0, .slice AW 0 cW, .slice AC 0 cC, .slice AT 0 cT], .slice AU 1 cU, .int .i64 0]) ∧ NetO w' w.heap.size (.agg #[.int .i64 3, .int .i64 2, .int .i64 0, .slice AW 0 cW, .slice AC 0 cC, .slice AT 0 cT]) xS2 ∧ Below w.heap.size w w' ∧ Rd w' AU ([⟨2, 1, 7⟩] : List Tm) := by
  refine (Tick_good xS1 v w hV okS1).mono fun e w' h => ?_
  rw [eq_tick2] at h
  obtain ⟨v', u, he, hu, ⟨AW, cW, AC, cC, AT, cT, rfl, h1, h2, h3⟩, hb⟩ := h
  obtain ⟨AU, cU, rfl, -, hr⟩ := hu.slice
  exact ⟨AW, cW, AC, cC, AT, cT, AU, cU, he, ⟨AW, cW, AC, cC, AT, cT, rfl, h1, h2, h3⟩, hb, hr⟩

theorem eq_rdy : rdyF xC = [] := by decide +kernel
theorem i_ready (v : Value) (w : World) (hV : NetV w v xC) : Calls Tryz.prog 33 #[v] w fun e w' => ∃ AU cU, e = .returned (.tuple #[.slice AU 0 cU, .int .i64 0]) ∧ Below w.heap.size w w' := by
  refine (Ready_good xC v w hV okC).mono fun e w' h => ?_
  obtain ⟨u, he, hu, hb⟩ := h
  rw [eq_rdy] at hu
  rcases hu.2 with ⟨rfl, -⟩ | ⟨g, cap, cur, rfl, -⟩
  · exact ⟨_, _, he, hb⟩
  · exact ⟨_, _, he, hb⟩
def xActs : List Ac := [⟨1, 0, 1, 0, ⟨#[]⟩⟩, ⟨4, 0, 0, 0, ⟨#[]⟩⟩, ⟨2, 0, 0, 1, ⟨#[]⟩⟩]
theorem eq_playX : playX (newX 2) xActs = xP := by decide +kernel
theorem i_play (A : Option Addr) (c : Nat) (w : World) (hR : Rd w A xActs) : Calls Tryz.prog 22 #[.int .i64 2, .slice A 3 c] w fun e w' => ∃ AW cW AC cC AT cT AU cU, e = .returned (.tuple #[.agg #[.int .i64 2, .int .i64 0, .int .i64 1, .slice AW 1 cW, .slice AC 0 cC, .slice AT 0 cT], .slice AU 3 cU, .int .i64 0]) ∧ Below w.heap.size w w' := by
  refine (Play_good 2 xActs A c w (by decide) (by decide) hR (by decide)).mono fun e w' h => ?_
  obtain ⟨v, u, rs, he, hv, hu, hs, hb⟩ := h
  rw [eq_playX] at hv
  obtain ⟨AW, cW, AC, cC, AT, cT, rfl, h1, h2, h3⟩ := hv
  obtain ⟨AU, cU, rfl, -, -⟩ := hu.slice
  have hl : rs.length = 3 := by rw [hs.1, playS_length]; rfl
  rw [hl] at he
  exact ⟨AW, cW, AC, cC, AT, cT, AU, cU, he, hb⟩
end Go.Proofs.YthlbmcfliejdiaaGreat
end

section
set_option linter.unusedVariables false
set_option linter.unusedSimpArgs false
namespace Go.Proofs.YthlbmcfliejdiaaGreat
open Go.RowKit Go.Instr

theorem eqATm (d : Nat) (w : World) (x0 y0 : Int) (x1 y1 : Int) (x2 y2 : Int) : (Op.equalIn (d + 2) 86 (.agg #[.int .i64 x0, .int .i64 x1, .int .i64 x2]) (.agg #[.int .i64 y0, .int .i64 y1, .int .i64 y2])).run Tryz.prog w = .ok ((x0 == y0) && ((x1 == y1) && ((x2 == y2)))) w := by
  refine eqA_of Tryz.underlying86 (by kernel_rfl) ?_
  refine eqf_cons (by rfl) (by go_simp; rfl) (by go_simp; rfl) (by go_simp) ?_
  refine eqf_cons (by rfl) (by go_simp; rfl) (by go_simp; rfl) (by go_simp) ?_
  exact eqf_last (by rfl) (by go_simp; rfl) (by go_simp; rfl) (by go_simp)
theorem eqALt (d : Nat) (w : World) (x0 y0 : Int) (x1 y1 : Int) (x2 y2 : Int) (x3 y3 : Int) (x4 y4 : ByteArray) : (Op.equalIn (d + 2) 33 (.agg #[.int .i64 x0, .int .i64 x1, .int .i64 x2, .int .i64 x3, .string x4]) (.agg #[.int .i64 y0, .int .i64 y1, .int .i64 y2, .int .i64 y3, .string y4])).run Tryz.prog w = .ok ((x0 == y0) && ((x1 == y1) && ((x2 == y2) && ((x3 == y3) && ((x4.toList == y4.toList)))))) w := by
  refine eqA_of Tryz.underlying33 (by kernel_rfl) ?_
  refine eqf_cons (by rfl) (by go_simp; rfl) (by go_simp; rfl) (by go_simp) ?_
  refine eqf_cons (by rfl) (by go_simp; rfl) (by go_simp; rfl) (by go_simp) ?_
  refine eqf_cons (by rfl) (by go_simp; rfl) (by go_simp; rfl) (by go_simp) ?_
  refine eqf_cons (by rfl) (by go_simp; rfl) (by go_simp; rfl) (by go_simp) ?_
  exact eqf_last (by rfl) (by go_simp; rfl) (by go_simp; rfl) (by go_simp)
theorem eqAAc (d : Nat) (w : World) (x0 y0 : Int) (x1 y1 : Int) (x2 y2 : Int) (x3 y3 : Int) (x4 y4 : ByteArray) : (Op.equalIn (d + 2) 50 (.agg #[.int .i64 x0, .int .i64 x1, .int .i64 x2, .int .i64 x3, .string x4]) (.agg #[.int .i64 y0, .int .i64 y1, .int .i64 y2, .int .i64 y3, .string y4])).run Tryz.prog w = .ok ((x0 == y0) && ((x1 == y1) && ((x2 == y2) && ((x3 == y3) && ((x4.toList == y4.toList)))))) w := by
  refine eqA_of Tryz.underlying50 (by kernel_rfl) ?_
  refine eqf_cons (by rfl) (by go_simp; rfl) (by go_simp; rfl) (by go_simp) ?_
  refine eqf_cons (by rfl) (by go_simp; rfl) (by go_simp; rfl) (by go_simp) ?_
  refine eqf_cons (by rfl) (by go_simp; rfl) (by go_simp; rfl) (by go_simp) ?_
  refine eqf_cons (by rfl) (by go_simp; rfl) (by go_simp; rfl) (by go_simp) ?_
  exact eqf_last (by rfl) (by go_simp; rfl) (by go_simp; rfl) (by go_simp)
theorem eqALk (d : Nat) (w : World) (x0 y0 : Int) (x1 y1 : Int) : (Op.equalIn (d + 2) 96 (.agg #[.int .i64 x0, .int .i64 x1]) (.agg #[.int .i64 y0, .int .i64 y1])).run Tryz.prog w = .ok ((x0 == y0) && ((x1 == y1))) w := by
  refine eqA_of Tryz.underlying96 (by kernel_rfl) ?_
  refine eqf_cons (by rfl) (by go_simp; rfl) (by go_simp; rfl) (by go_simp) ?_
  exact eqf_last (by rfl) (by go_simp; rfl) (by go_simp; rfl) (by go_simp)
end Go.Proofs.YthlbmcfliejdiaaGreat
end

section
set_option linter.unusedVariables false
set_option linter.unusedSimpArgs false
namespace Go.Proofs.YthlbmcfliejdiaaGreat
open Go.RowKit

attribute [local go_sem high] eqATm eqALt eqAAc eqALk
theorem NetO.ne6 {w : World} {B b : Nat} {v : Value} {x : Nt} (h : NetO w B v x) {cs : Array Value} {f : Nat × Nat} (hp : w.heap[b]? = some (.cells cs 26 f)) (a0 a1 a2 a3 a4 a5 : Value) :
    NetO ((((((w.setCell ⟨b, 0, none⟩ a0).setCell ⟨b, 1, none⟩ a1).setCell ⟨b, 2, none⟩ a2).setCell ⟨b, 3, none⟩ a3).setCell ⟨b, 4, none⟩ a4).setCell ⟨b, 5, none⟩ a5) B v x := by
  obtain ⟨A1, c1, A2, c2, A3, c3, e', oW, oC, oT⟩ := h
  have n1 := oW.ne hp (by decide)
  have n2 := oC.ne hp (by decide)
  have n3 := oT.ne hp (by decide)
  refine ⟨A1, c1, A2, c2, A3, c3, e', ?_, ?_, ?_⟩
  · repeat (refine Own.setCell ?_ (by exact n1) _)
    exact oW
  · repeat (refine Own.setCell ?_ (by exact n2) _)
    exact oC
  · repeat (refine Own.setCell ?_ (by exact n3) _)
    exact oT
set_option maxHeartbeats 20000000 in
set_option maxRecDepth 100000 in
theorem sane_any (w : World) : Calls Tryz.prog 6 #[] w fun e w' => e = .returned (.bool true) ∧ Below w.heap.size w w' := by
  go_enter Tryz.func6, Tryz.ntmps6

  go_wp2_with fail
  refine (New_ok 3 _ (by decide) (by decide)).mono ?_
  rintro e w1 ⟨rfl, hb1⟩
  have HB := Lib.hid hb1
  go_wp2_with fail
  refine (New_bad 0 _ (by decide)).mono ?_
  rintro e w2 ⟨rfl, hb2⟩
  have hk2 := below_trans (below_alloc (Below.refl _ _) _) hb2
  replace HB := Lib.hid (HB.out.trans (hk2.mono HB.out.size))
  have h_t1 := bl_below (bl_new w1 (.cells #[.int .i64 3, .int .i64 0, .int .i64 0, .slice none 0 0, .slice none 0 0, .slice none 0 0] 26)) hb2
  have H_t1 := Lib.hid h_t1
  clear h_t1
  obtain ⟨⟨c_t10, c_t11, c_t12, c_t13, c_t14, c_t15⟩, f_t10, f_t11, f_t12, f_t13, f_t14, f_t15⟩ := blc6 H_t1.out
  have l_t1 := bl_lt H_t1.out
  simp only [zNetV]
  go_wp2_with fail
  refine (i_send _ _ (by exact ⟨none, 0, none, 0, none, 0, rfl, Rd.nil _ _, Rd.nil _ _, Rd.nil _ _⟩)).mono ?_
  rintro e w3 ⟨AW3, cW3, AC3, cC3, AT3, cT3, rfl, hV3, hb3⟩
  have hk3 := below_trans (below_alloc (Below.refl _ _) _) hb3
  replace HB := Lib.hid (HB.out.trans (hk3.mono HB.out.size))
  replace H_t1 := Lib.hid (bl_below H_t1.out hk3)
  have V_Y := Lib.hid (hV3)
  clear c_t10 c_t11 c_t12 c_t13 c_t14 c_t15 f_t10 f_t11 f_t12 f_t13 f_t14 f_t15 l_t1
  go_wp2_with fail
  refine (i_dlv1 _ _ (by exact (V_Y.out.netV.below (below_alloc (Below.refl _ _) _)))).mono ?_
  rintro e w4 ⟨AW4, cW4, AC4, cC4, AT4, cT4, rfl, hV4, hb4⟩
  have hk4 := below_trans (below_alloc (Below.refl _ _) _) hb4
  replace HB := Lib.hid (HB.out.trans (hk4.mono HB.out.size))
  replace H_t1 := Lib.hid (bl_below H_t1.out hk4)
  replace V_Y := Lib.hid (V_Y.out.below hk4)
  have h_t5 := bl_below (bl_new w3 (.cells #[.int .i64 3, .int .i64 0, .int .i64 1, .slice AW3 1 cW3, .slice AC3 0 cC3, .slice AT3 0 cT3] 26)) hb4
  have H_t5 := Lib.hid h_t5
  clear h_t5
  have V_Z := Lib.hid (hV4)
  go_wp2_with fail
  refine (i_dlv2 _ _ (by exact (V_Z.out.netV.below (below_alloc (below_alloc (Below.refl _ _) _) _)))).mono ?_
  rintro e w5 ⟨AW5, cW5, AC5, cC5, AT5, cT5, rfl, hV5, hb5⟩
  have hk5 := below_trans (below_alloc (below_alloc (Below.refl _ _) _) _) hb5
  replace HB := Lib.hid (HB.out.trans (hk5.mono HB.out.size))
  replace H_t1 := Lib.hid (bl_below H_t1.out hk5)
  replace H_t5 := Lib.hid (bl_below H_t5.out hk5)
  replace V_Y := Lib.hid (V_Y.out.below hk5)
  replace V_Z := Lib.hid (V_Z.out.below hk5)
  have h_t7 := bl_below (bl_alloc (bl_new w4 (.cells #[.int .i64 3, .int .i64 0, .int .i64 1, .slice AW4 0 cW4, .slice AC4 0 cC4, .slice AT4 0 cT4] 26)) _) hb5
  have H_t7 := Lib.hid h_t7
  clear h_t7
  have h_t8 := bl_below (bl_new (w4.alloc (.cells #[.int .i64 3, .int .i64 0, .int .i64 1, .slice AW4 0 cW4, .slice AC4 0 cC4, .slice AT4 0 cT4] 26)) (.cells #[.int .i64 0, .int .i64 0, .int .i64 2, .int .i64 0, .string ⟨#[97]⟩] 33)) hb5
  simp only [World.size_alloc] at h_t8
  have H_t8 := Lib.hid h_t8
  clear h_t8
  obtain ⟨⟨c_t80, c_t81, c_t82, c_t83, c_t84⟩, f_t80, f_t81, f_t82, f_t83, f_t84⟩ := blc5 H_t8.out
  have l_t8 := bl_lt H_t8.out
  obtain ⟨⟨c_t50, c_t51, c_t52, c_t53, c_t54, c_t55⟩, f_t50, f_t51, f_t52, f_t53, f_t54, f_t55⟩ := blc6 H_t5.out
  have l_t5 := bl_lt H_t5.out
  obtain ⟨⟨c_t70, c_t71, c_t72, c_t73, c_t74, c_t75⟩, f_t70, f_t71, f_t72, f_t73, f_t74, f_t75⟩ := blc6 H_t7.out
  have l_t7 := bl_lt H_t7.out
  go_wp2_with fail
  refine (i_delay _ _ (by exact (V_Y.out.netV.below (below_alloc (below_alloc (Below.refl _ _) _) _)))).mono ?_
  rintro e w6 ⟨AW6, cW6, AC6, cC6, AT6, cT6, rfl, hV6, hb6⟩
  have hk6 := below_trans (below_alloc (below_alloc (Below.refl _ _) _) _) hb6
  replace HB := Lib.hid (HB.out.trans (hk6.mono HB.out.size))
  clear H_t7
  clear H_t8
  replace H_t1 := Lib.hid (bl_below H_t1.out hk6)
  replace H_t5 := Lib.hid (bl_below H_t5.out hk6)
  replace V_Y := Lib.hid (V_Y.out.below hk6)
  replace V_Z := Lib.hid (V_Z.out.below hk6)
  have V_W := Lib.hid (hV6)
  clear c_t80 c_t81 c_t82 c_t83 c_t84 f_t80 f_t81 f_t82 f_t83 f_t84 l_t8 c_t50 c_t51 c_t52 c_t53 c_t54 c_t55 f_t50 f_t51 f_t52 f_t53 f_t54 f_t55 l_t5 c_t70 c_t71 c_t72 c_t73 c_t74 c_t75 f_t70 f_t71 f_t72 f_t73 f_t74 f_t75 l_t7
  go_wp2_with fail
  refine (i_dlv3 _ _ (by exact (V_W.out.netV.below (below_alloc (Below.refl _ _) _)))).mono ?_
  rintro e w7 ⟨AW7, cW7, AC7, cC7, AT7, cT7, rfl, hV7, hb7⟩
  have hk7 := below_trans (below_alloc (Below.refl _ _) _) hb7
  replace HB := Lib.hid (HB.out.trans (hk7.mono HB.out.size))
  replace H_t1 := Lib.hid (bl_below H_t1.out hk7)
  replace H_t5 := Lib.hid (bl_below H_t5.out hk7)
  replace V_Y := Lib.hid (V_Y.out.below hk7)
  replace V_Z := Lib.hid (V_Z.out.below hk7)
  replace V_W := Lib.hid (V_W.out.below hk7)
  obtain ⟨⟨c_t50, c_t51, c_t52, c_t53, c_t54, c_t55⟩, f_t50, f_t51, f_t52, f_t53, f_t54, f_t55⟩ := blc6 H_t5.out
  have l_t5 := bl_lt H_t5.out
  go_wp2_with fail
  refine (i_cut1 _ _ (by exact (V_Y.out.netV.below (Below.refl _ _)))).mono ?_
  rintro e w8 ⟨AW8, cW8, AC8, cC8, AT8, cT8, rfl, hV8, hb8⟩
  have hk8 := below_trans (Below.refl _ _) hb8
  replace HB := Lib.hid (HB.out.trans (hk8.mono HB.out.size))
  clear H_t5
  replace H_t1 := Lib.hid (bl_below H_t1.out hk8)
  replace V_Y := Lib.hid (V_Y.out.below hk8)
  replace V_Z := Lib.hid (V_Z.out.below hk8)
  replace V_W := Lib.hid (V_W.out.below hk8)
  have V_C := Lib.hid (hV8)
  clear c_t50 c_t51 c_t52 c_t53 c_t54 c_t55 f_t50 f_t51 f_t52 f_t53 f_t54 f_t55 l_t5
  go_wp2_with fail
  refine (i_cut2 _ _ (by exact (V_C.out.netV.below (below_alloc (Below.refl _ _) _)))).mono ?_
  rintro e w9 ⟨AW9, cW9, AC9, cC9, AT9, cT9, rfl, hV9, hb9⟩
  have hk9 := below_trans (below_alloc (Below.refl _ _) _) hb9
  replace HB := Lib.hid (HB.out.trans (hk9.mono HB.out.size))
  replace H_t1 := Lib.hid (bl_below H_t1.out hk9)
  replace V_Y := Lib.hid (V_Y.out.below hk9)
  replace V_Z := Lib.hid (V_Z.out.below hk9)
  replace V_W := Lib.hid (V_W.out.below hk9)
  replace V_C := Lib.hid (V_C.out.below hk9)
  have h_t14 := bl_below (bl_new w8 (.cells #[.int .i64 3, .int .i64 0, .int .i64 1, .slice AW8 1 cW8, .slice AC8 1 cC8, .slice AT8 0 cT8] 26)) hb9
  have H_t14 := Lib.hid h_t14
  clear h_t14
  obtain ⟨⟨c_t140, c_t141, c_t142, c_t143, c_t144, c_t145⟩, f_t140, f_t141, f_t142, f_t143, f_t144, f_t145⟩ := blc6 H_t14.out
  have l_t14 := bl_lt H_t14.out
  go_wp2_with fail
  refine (i_ready _ _ (by exact (V_C.out.netV.below (below_alloc (Below.refl _ _) _)))).mono ?_
  rintro e w10 ⟨AU10, cU10, rfl, hb10⟩
  have hk10 := below_trans (below_alloc (Below.refl _ _) _) hb10
  replace HB := Lib.hid (HB.out.trans (hk10.mono HB.out.size))
  clear H_t14
  replace H_t1 := Lib.hid (bl_below H_t1.out hk10)
  replace V_Y := Lib.hid (V_Y.out.below hk10)
  replace V_Z := Lib.hid (V_Z.out.below hk10)
  replace V_W := Lib.hid (V_W.out.below hk10)
  replace V_C := Lib.hid (V_C.out.below hk10)
  clear c_t140 c_t141 c_t142 c_t143 c_t144 c_t145 f_t140 f_t141 f_t142 f_t143 f_t144 f_t145 l_t14
  obtain ⟨⟨c_t10, c_t11, c_t12, c_t13, c_t14, c_t15⟩, f_t10, f_t11, f_t12, f_t13, f_t14, f_t15⟩ := blc6 H_t1.out
  have l_t1 := bl_lt H_t1.out
  clear V_Y
  clear V_Z
  clear V_W
  clear V_C
  go_wp2_with fail
  refine (i_set _ _ (by exact ⟨none, 0, none, 0, none, 0, rfl, Rd.nil _ _, Rd.nil _ _, Rd.nil _ _⟩)).mono ?_
  rintro e w11 ⟨AW11, cW11, AC11, cC11, AT11, cT11, rfl, hV11, hb11⟩
  have hk11 := below_trans (Below.refl _ _) hb11
  replace HB := Lib.hid (HB.out.trans (hk11.mono HB.out.size))
  replace H_t1 := Lib.hid (bl_below H_t1.out hk11)
  have V_S := Lib.hid (hV11)
  have HLT_t1 := Lib.hid (bl_lt H_t1.out)
  have HSZ := Lib.hid HB.out.size
  clear c_t10 c_t11 c_t12 c_t13 c_t14 c_t15 f_t10 f_t11 f_t12 f_t13 f_t14 f_t15 l_t1
  go_wp2_with fail
  refine (i_tick1 _ _ (by exact (V_S.out.netV.below (below_alloc (Below.refl _ _) _)))).mono ?_
  rintro e w12 ⟨AW12, cW12, AC12, cC12, AT12, cT12, AU12, cU12, rfl, hV12, hb12, hr12⟩
  have hk12 := below_trans (below_alloc (Below.refl _ _) _) hb12
  replace HB := Lib.hid (HB.out.trans (hk12.mono HB.out.size))
  replace H_t1 := Lib.hid (bl_below H_t1.out hk12)
  replace V_S := Lib.hid (V_S.out.below hk12)
  have h_t19 := bl_below (bl_new w11 (.cells #[.int .i64 3, .int .i64 0, .int .i64 0, .slice AW11 0 cW11, .slice AC11 0 cC11, .slice AT11 1 cT11] 26)) hb12
  have H_t19 := Lib.hid h_t19
  clear h_t19
  have V_S1 := Lib.hid (hV12)
  have H0_t19 := H_t19
  obtain ⟨⟨c_t190, c_t191, c_t192, c_t193, c_t194, c_t195⟩, f_t190, f_t191, f_t192, f_t193, f_t194, f_t195⟩ := blc6 H_t19.out
  have l_t19 := bl_lt H_t19.out
  obtain ⟨⟨c_t10, c_t11, c_t12, c_t13, c_t14, c_t15⟩, f_t10, f_t11, f_t12, f_t13, f_t14, f_t15⟩ := blc6 H_t1.out
  have l_t1 := bl_lt H_t1.out
  go_wp2_with fail
  refine (i_tick2 _ _ (by exact (V_S1.out.ne6 H0_t19.out _ _ _ _ _ _).netV)).mono ?_
  rintro e w13 ⟨AW13, cW13, AC13, cC13, AT13, cT13, AU13, cU13, rfl, hV13, hb13, hr13⟩
  replace HB := Lib.hid ((below_set6 HB.out (by have := HSZ.out; omega) _ _ _ _ _ _).trans (hb13.mono (by simpa [World.setCell] using HB.out.size)))
  replace H_t1 := Lib.hid (bl_below (bl_far6 H_t1.out (by have := l_t1; have := HLT_t1.out; omega) _ _ _ _ _ _) hb13)
  replace H_t19 := Lib.hid (bl_below (bl_all6 H_t19.out _ _ _ _ _ _) hb13)
  replace V_S1 := Lib.hid ((V_S1.out.ne6 H0_t19.out _ _ _ _ _ _).below hb13)
  clear c_t190 c_t191 c_t192 c_t193 c_t194 c_t195 f_t190 f_t191 f_t192 f_t193 f_t194 f_t195 l_t19 c_t10 c_t11 c_t12 c_t13 c_t14 c_t15 f_t10 f_t11 f_t12 f_t13 f_t14 f_t15 l_t1
  obtain ⟨⟨c_t10, c_t11, c_t12, c_t13, c_t14, c_t15⟩, f_t10, f_t11, f_t12, f_t13, f_t14, f_t15⟩ := blc6 H_t1.out
  have l_t1 := bl_lt H_t1.out
  obtain ⟨bT, offT, zT, rfl, hzT, e0, e1, e2⟩ := hr13.tm 0 (by simp)
  obtain rfl : zT = ⟨2, 1, 7⟩ := by simpa using hzT.out.symm
  have E0 := Lib.hid e0
  have E1 := Lib.hid e1
  have E2 := Lib.hid e2
  clear hr13 hzT e0 e1 e2
  go_wp2_with fail
  refine (i_send2 _ _ (by exact ⟨none, 0, none, 0, none, 0, rfl, Rd.nil _ _, Rd.nil _ _, Rd.nil _ _⟩)).mono ?_
  rintro e w14 ⟨AW14, cW14, AC14, cC14, AT14, cT14, rfl, hV14, hb14⟩
  have hk14 := below_trans (below_alloc (Below.refl _ _) _) hb14
  replace HB := Lib.hid (HB.out.trans (hk14.mono HB.out.size))
  replace H_t1 := Lib.hid (bl_below H_t1.out hk14)
  replace H_t19 := Lib.hid (bl_below H_t19.out hk14)
  replace V_S1 := Lib.hid (V_S1.out.below hk14)
  clear c_t10 c_t11 c_t12 c_t13 c_t14 c_t15 f_t10 f_t11 f_t12 f_t13 f_t14 f_t15 l_t1
  have hRA : Rd (w14.alloc (.cells #[.int .i64 1, .int .i64 0, .int .i64 1, .int .i64 0, .string ⟨#[]⟩, .int .i64 4, .int .i64 0, .int .i64 0, .int .i64 0, .string ⟨#[]⟩, .int .i64 2, .int .i64 0, .int .i64 0, .int .i64 1, .string ⟨#[]⟩] 50)) (some ⟨w14.heap.size, 0, none⟩) xActs := Rd.of_cells (fun j u hj => by rw [Nat.zero_add, bl_cell (bl_new w14 _) j]; simpa [flat, xActs, Enc.enc] using hj)
  have HRA := Lib.hid hRA
  clear hRA
  go_wp2_with fail
  refine (i_play _ _ _ HRA.out).mono ?_
  rintro e w15 ⟨AW15, cW15, AC15, cC15, AT15, cT15, AU15, cU15, rfl, hb15⟩
  have hk15 := below_trans (below_alloc (Below.refl _ _) _) hb15
  replace HB := Lib.hid (HB.out.trans (hk15.mono HB.out.size))
  have hE0 := cell_below hk15 (cell_below hk14 E0.out)
  have hE1 := cell_below hk15 (cell_below hk14 E1.out)
  have hE2 := cell_below hk15 (cell_below hk14 E2.out)
  simp only [Nat.zero_mul, Nat.add_zero] at hE0 hE1 hE2
  have hlE := World.block_lt_of_cell? w15 _ hE0
  simp only at hlE
  clear hb15 hk15 hk14
  go_wp2
  go_ret
  exact ⟨rfl, below_alloc HB.out _⟩
end Go.Proofs.YthlbmcfliejdiaaGreat
end
