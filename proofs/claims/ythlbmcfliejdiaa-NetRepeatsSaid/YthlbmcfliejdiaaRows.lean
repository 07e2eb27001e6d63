/-
  No cell of these rows narrows 'for every input' (looked for: loops, veiled, ifaces, maps, wideKeys, modest, calm, conditions, laid).
  DERIVED. THE GIVEN ROWS OF THIS SEAT. 9 by the template 'for every input the law returns true; each argument reads behind the call as it read before'; 0 by the template 'total and deterministic' (their statements: YthlbmcfliejdiaaTotals.lean).
  GIVEN WITH THE SEED: the statements are not yours to turn. If you find one false, say at which input.
  Laid BY PROGRAM, IN A SANDBOX (cutbox-rows.mjs): the forced cells as the released guide's own fill.sh prints them over the translation 084567e7121b02f7… (all of the seat's roots in one cut). By AI agents, Wed Nov 11 2026. No macro, syntax, notation, axiom, sorry.
-/
import Derived.Test.YthlbmcfliejdiaaChecked
import GoSem.Claim
import GoSem.ClaimJoined
import GoSem.ClaimMapViews
import Derived.JoinedTies
import Derived.KernelRfl
namespace Go.Proofs.Ythlbmcfliejdiaa
/- THE CELL 'sum', in the pinned program and in every row, IS THE sha256 OF THE DUMP (.gsa) THAT YthlbmcfliejdiaaProg.lean LOADS. Nothing in Lean hashes anything: it is a label: what it is worth is what the hold of that sum in a sandbox is worth. -/
noncomputable def Try.pinned : Pinned := { name := "ythlbmcfliejdiaa", sum := "084567e7121b02f7e19eeebb9fe35da158ee5ff5425219566dd08c5e078a20e5", checked := Try.checked }
namespace Rows
def none {H : Type} : Left H := { results := [], args := [] }

/-- 'understorylaw19.NetChecks': WHATEVER THE INPUT: true; the input reads as it did. -/
def netChecksSpec : ChangeSpec := { name := "netChecks", fn := fun _ => fun
  | [d1, d2] => { results := [.lit (.bool true)], args := [d1, d2] }
  | _ => none }
def netChecksRow : OpenClaim := { program := "ythlbmcfliejdiaa", sum := "084567e7121b02f7e19eeebb9fe35da158ee5ff5425219566dd08c5e078a20e5", func := "understory/understorylaw19.NetChecks", spec := "netChecks", inPlace := ["slices.overlaps[understory/api.Link]", "slices.overlaps[understory/api.Timer]"], unfollowed := true, recurses := true, plainKeys := false, apart := false }
def NetChecksSaid : Prop := netChecksRow.holds Try.pinned (OpenSpec.ofChange netChecksSpec)

/-- ITS FALSE NEIGHBOUR: 'it returns false'. Refute it at one input. -/
def netChecksWrong : ChangeSpec := { name := "netChecks", fn := fun _ => fun
  | [d1, d2] => { results := [.lit (.bool false)], args := [d1, d2] }
  | _ => none }
def NetChecksWrongFalsely : Prop := netChecksRow.holds Try.pinned (OpenSpec.ofChange netChecksWrong)

/-- 'understorylaw19.NetConserves': WHATEVER THE INPUT: true; the input reads as it did. -/
def netConservesSpec : ChangeSpec := { name := "netConserves", fn := fun _ => fun
  | [d1, d2] => { results := [.lit (.bool true)], args := [d1, d2] }
  | _ => none }
def netConservesRow : OpenClaim := { program := "ythlbmcfliejdiaa", sum := "084567e7121b02f7e19eeebb9fe35da158ee5ff5425219566dd08c5e078a20e5", func := "understory/understorylaw19.NetConserves", spec := "netConserves", inPlace := ["slices.overlaps[understory/api.Link]", "slices.overlaps[understory/api.Timer]"], unfollowed := true, recurses := true, plainKeys := false, apart := false }
def NetConservesSaid : Prop := netConservesRow.holds Try.pinned (OpenSpec.ofChange netConservesSpec)

/-- ITS FALSE NEIGHBOUR: 'it returns false'. Refute it at one input. -/
def netConservesWrong : ChangeSpec := { name := "netConserves", fn := fun _ => fun
  | [d1, d2] => { results := [.lit (.bool false)], args := [d1, d2] }
  | _ => none }
def NetConservesWrongFalsely : Prop := netConservesRow.holds Try.pinned (OpenSpec.ofChange netConservesWrong)

/-- 'understorylaw19.NetLinks': WHATEVER THE INPUT: true; the input reads as it did. -/
def netLinksSpec : ChangeSpec := { name := "netLinks", fn := fun _ => fun
  | [d1, d2, d3] => { results := [.lit (.bool true)], args := [d1, d2, d3] }
  | _ => none }
def netLinksRow : OpenClaim := { program := "ythlbmcfliejdiaa", sum := "084567e7121b02f7e19eeebb9fe35da158ee5ff5425219566dd08c5e078a20e5", func := "understory/understorylaw19.NetLinks", spec := "netLinks", inPlace := ["slices.overlaps[understory/api.Link]", "slices.overlaps[understory/api.Timer]"], unfollowed := true, recurses := true, plainKeys := false, apart := false }
def NetLinksSaid : Prop := netLinksRow.holds Try.pinned (OpenSpec.ofChange netLinksSpec)

/-- ITS FALSE NEIGHBOUR: 'it returns false'. Refute it at one input. -/
def netLinksWrong : ChangeSpec := { name := "netLinks", fn := fun _ => fun
  | [d1, d2, d3] => { results := [.lit (.bool false)], args := [d1, d2, d3] }
  | _ => none }
def NetLinksWrongFalsely : Prop := netLinksRow.holds Try.pinned (OpenSpec.ofChange netLinksWrong)

/-- 'understorylaw19.NetTimers': WHATEVER THE INPUT: true; the input reads as it did. -/
def netTimersSpec : ChangeSpec := { name := "netTimers", fn := fun _ => fun
  | [d1, d2, d3, d4] => { results := [.lit (.bool true)], args := [d1, d2, d3, d4] }
  | _ => none }
def netTimersRow : OpenClaim := { program := "ythlbmcfliejdiaa", sum := "084567e7121b02f7e19eeebb9fe35da158ee5ff5425219566dd08c5e078a20e5", func := "understory/understorylaw19.NetTimers", spec := "netTimers", inPlace := ["slices.overlaps[understory/api.Link]", "slices.overlaps[understory/api.Timer]"], unfollowed := true, recurses := true, plainKeys := false, apart := false }
def NetTimersSaid : Prop := netTimersRow.holds Try.pinned (OpenSpec.ofChange netTimersSpec)

/-- ITS FALSE NEIGHBOUR: 'it returns false'. Refute it at one input. -/
def netTimersWrong : ChangeSpec := { name := "netTimers", fn := fun _ => fun
  | [d1, d2, d3, d4] => { results := [.lit (.bool false)], args := [d1, d2, d3, d4] }
  | _ => none }
def NetTimersWrongFalsely : Prop := netTimersRow.holds Try.pinned (OpenSpec.ofChange netTimersWrong)

/-- 'understorylaw19.NetCuts': WHATEVER THE INPUT: true; the input reads as it did. -/
def netCutsSpec : ChangeSpec := { name := "netCuts", fn := fun _ => fun
  | [d1, d2, d3, d4] => { results := [.lit (.bool true)], args := [d1, d2, d3, d4] }
  | _ => none }
def netCutsRow : OpenClaim := { program := "ythlbmcfliejdiaa", sum := "084567e7121b02f7e19eeebb9fe35da158ee5ff5425219566dd08c5e078a20e5", func := "understory/understorylaw19.NetCuts", spec := "netCuts", inPlace := ["slices.overlaps[understory/api.Link]", "slices.overlaps[understory/api.Timer]"], unfollowed := true, recurses := true, plainKeys := false, apart := false }
def NetCutsSaid : Prop := netCutsRow.holds Try.pinned (OpenSpec.ofChange netCutsSpec)

/-- ITS FALSE NEIGHBOUR: 'it returns false'. Refute it at one input. -/
def netCutsWrong : ChangeSpec := { name := "netCuts", fn := fun _ => fun
  | [d1, d2, d3, d4] => { results := [.lit (.bool false)], args := [d1, d2, d3, d4] }
  | _ => none }
def NetCutsWrongFalsely : Prop := netCutsRow.holds Try.pinned (OpenSpec.ofChange netCutsWrong)

/-- 'understorylaw19.NetTwoWays': WHATEVER THE INPUT: true; the input reads as it did. -/
def netTwoWaysSpec : ChangeSpec := { name := "netTwoWays", fn := fun _ => fun
  | [d1, d2, d3, d4] => { results := [.lit (.bool true)], args := [d1, d2, d3, d4] }
  | _ => none }
def netTwoWaysRow : OpenClaim := { program := "ythlbmcfliejdiaa", sum := "084567e7121b02f7e19eeebb9fe35da158ee5ff5425219566dd08c5e078a20e5", func := "understory/understorylaw19.NetTwoWays", spec := "netTwoWays", inPlace := ["slices.overlaps[understory/api.Link]", "slices.overlaps[understory/api.Timer]"], unfollowed := true, recurses := true, plainKeys := false, apart := false }
def NetTwoWaysSaid : Prop := netTwoWaysRow.holds Try.pinned (OpenSpec.ofChange netTwoWaysSpec)

/-- ITS FALSE NEIGHBOUR: 'it returns false'. Refute it at one input. -/
def netTwoWaysWrong : ChangeSpec := { name := "netTwoWays", fn := fun _ => fun
  | [d1, d2, d3, d4] => { results := [.lit (.bool false)], args := [d1, d2, d3, d4] }
  | _ => none }
def NetTwoWaysWrongFalsely : Prop := netTwoWaysRow.holds Try.pinned (OpenSpec.ofChange netTwoWaysWrong)

/-- 'understorylaw19.NetRepeats': WHATEVER THE INPUT: true; the input reads as it did. -/
def netRepeatsSpec : ChangeSpec := { name := "netRepeats", fn := fun _ => fun
  | [d1, d2, d3, d4] => { results := [.lit (.bool true)], args := [d1, d2, d3, d4] }
  | _ => none }
def netRepeatsRow : OpenClaim := { program := "ythlbmcfliejdiaa", sum := "084567e7121b02f7e19eeebb9fe35da158ee5ff5425219566dd08c5e078a20e5", func := "understory/understorylaw19.NetRepeats", spec := "netRepeats", inPlace := ["slices.overlaps[understory/api.Link]", "slices.overlaps[understory/api.Timer]"], unfollowed := true, recurses := true, plainKeys := false, apart := false }
def NetRepeatsSaid : Prop := netRepeatsRow.holds Try.pinned (OpenSpec.ofChange netRepeatsSpec)

/-- ITS FALSE NEIGHBOUR: 'it returns false'. Refute it at one input. -/
def netRepeatsWrong : ChangeSpec := { name := "netRepeats", fn := fun _ => fun
  | [d1, d2, d3, d4] => { results := [.lit (.bool false)], args := [d1, d2, d3, d4] }
  | _ => none }
def NetRepeatsWrongFalsely : Prop := netRepeatsRow.holds Try.pinned (OpenSpec.ofChange netRepeatsWrong)

/-- 'understorylaw19.NetCalms': WHATEVER THE INPUT: true; the input reads as it did. -/
def netCalmsSpec : ChangeSpec := { name := "netCalms", fn := fun _ => fun
  | [d1, d2, d3, d4] => { results := [.lit (.bool true)], args := [d1, d2, d3, d4] }
  | _ => none }
def netCalmsRow : OpenClaim := { program := "ythlbmcfliejdiaa", sum := "084567e7121b02f7e19eeebb9fe35da158ee5ff5425219566dd08c5e078a20e5", func := "understory/understorylaw19.NetCalms", spec := "netCalms", inPlace := ["slices.overlaps[understory/api.Link]", "slices.overlaps[understory/api.Timer]"], unfollowed := true, recurses := true, plainKeys := false, apart := false }
def NetCalmsSaid : Prop := netCalmsRow.holds Try.pinned (OpenSpec.ofChange netCalmsSpec)

/-- ITS FALSE NEIGHBOUR: 'it returns false'. Refute it at one input. -/
def netCalmsWrong : ChangeSpec := { name := "netCalms", fn := fun _ => fun
  | [d1, d2, d3, d4] => { results := [.lit (.bool false)], args := [d1, d2, d3, d4] }
  | _ => none }
def NetCalmsWrongFalsely : Prop := netCalmsRow.holds Try.pinned (OpenSpec.ofChange netCalmsWrong)

/-- 'understorylaw19.NetFires': WHATEVER THE INPUT: true; the input reads as it did. -/
def netFiresSpec : ChangeSpec := { name := "netFires", fn := fun _ => fun
  | [d1, d2] => { results := [.lit (.bool true)], args := [d1, d2] }
  | _ => none }
def netFiresRow : OpenClaim := { program := "ythlbmcfliejdiaa", sum := "084567e7121b02f7e19eeebb9fe35da158ee5ff5425219566dd08c5e078a20e5", func := "understory/understorylaw19.NetFires", spec := "netFires", inPlace := ["slices.overlaps[understory/api.Link]", "slices.overlaps[understory/api.Timer]"], unfollowed := true, recurses := true, plainKeys := false, apart := false }
def NetFiresSaid : Prop := netFiresRow.holds Try.pinned (OpenSpec.ofChange netFiresSpec)

/-- ITS FALSE NEIGHBOUR: 'it returns false'. Refute it at one input. -/
def netFiresWrong : ChangeSpec := { name := "netFires", fn := fun _ => fun
  | [d1, d2] => { results := [.lit (.bool false)], args := [d1, d2] }
  | _ => none }
def NetFiresWrongFalsely : Prop := netFiresRow.holds Try.pinned (OpenSpec.ofChange netFiresWrong)

/- THE SECOND FORM. 'bulk': how many values and letters a reading holds, each counted each time it is reached (what is shared counts as often as it is met; a slice's spare places count too). A statement '..UptoSaid' is the law's where the arguments, and the package variables that the reading takes, are together of bulk at most 1048576: NARROWER than '..Said'. Prove '..Said' where nothing that the law and all that it calls make is longer than what came in: it says more and counts as full. Else prove '..UptoSaid'. A law counts once. -/
mutual
def uptoBulk {H : Type} : DataW H → Nat
  | .lit (.string bytes) => bytes.length + 1
  | .lit _ => 1
  | .nil => 1
  | .ptr d => uptoBulk d + 1
  | .slice elems spare => uptoBulkAll elems + uptoBulkAll spare + 1
  | .agg parts => uptoBulkAll parts + 1
  | .iface _ d => uptoBulk d + 1
  | .map entries => uptoBulkEntries entries + 1
  | .held _ => 1
def uptoBulkAll {H : Type} : List (DataW H) → Nat
  | [] => 0
  | d :: r => uptoBulk d + uptoBulkAll r
def uptoBulkEntries {H : Type} : List (Lit × DataW H) → Nat
  | [] => 0
  | x :: r => uptoBulkEntry x + uptoBulkEntries r
def uptoBulkEntry {H : Type} : Lit × DataW H → Nat
  | (.string bytes, d) => bytes.length + uptoBulk d + 1
  | (_, d) => uptoBulk d + 1
 end
def uptoSmall : (H : Type) → List (DataW H) → Bool := fun _ ds => decide (uptoBulkAll ds ≤ 1048576)
def OpenSpec.upto (s : _root_.Go.ChangeSpec) : _root_.Go.OpenSpec := { _root_.Go.OpenSpec.ofChange s with cond := some uptoSmall }

/-- 'understorylaw19.NetChecks', WHERE WHAT IT READS IS OF BULK AT MOST 1048576: true; the input reads as it did. -/
def netChecksUptoRow : OpenClaim := { program := "ythlbmcfliejdiaa", sum := "084567e7121b02f7e19eeebb9fe35da158ee5ff5425219566dd08c5e078a20e5", func := "understory/understorylaw19.NetChecks", spec := "netChecks", inPlace := ["slices.overlaps[understory/api.Link]", "slices.overlaps[understory/api.Timer]"], unfollowed := true, recurses := true, plainKeys := false, apart := false, narrowed := true }
def NetChecksUptoSaid : Prop := netChecksUptoRow.holds Try.pinned (OpenSpec.upto netChecksSpec)

/-- 'understorylaw19.NetConserves', WHERE WHAT IT READS IS OF BULK AT MOST 1048576: true; the input reads as it did. -/
def netConservesUptoRow : OpenClaim := { program := "ythlbmcfliejdiaa", sum := "084567e7121b02f7e19eeebb9fe35da158ee5ff5425219566dd08c5e078a20e5", func := "understory/understorylaw19.NetConserves", spec := "netConserves", inPlace := ["slices.overlaps[understory/api.Link]", "slices.overlaps[understory/api.Timer]"], unfollowed := true, recurses := true, plainKeys := false, apart := false, narrowed := true }
def NetConservesUptoSaid : Prop := netConservesUptoRow.holds Try.pinned (OpenSpec.upto netConservesSpec)

/-- 'understorylaw19.NetLinks', WHERE WHAT IT READS IS OF BULK AT MOST 1048576: true; the input reads as it did. -/
def netLinksUptoRow : OpenClaim := { program := "ythlbmcfliejdiaa", sum := "084567e7121b02f7e19eeebb9fe35da158ee5ff5425219566dd08c5e078a20e5", func := "understory/understorylaw19.NetLinks", spec := "netLinks", inPlace := ["slices.overlaps[understory/api.Link]", "slices.overlaps[understory/api.Timer]"], unfollowed := true, recurses := true, plainKeys := false, apart := false, narrowed := true }
def NetLinksUptoSaid : Prop := netLinksUptoRow.holds Try.pinned (OpenSpec.upto netLinksSpec)

/-- 'understorylaw19.NetTimers', WHERE WHAT IT READS IS OF BULK AT MOST 1048576: true; the input reads as it did. -/
def netTimersUptoRow : OpenClaim := { program := "ythlbmcfliejdiaa", sum := "084567e7121b02f7e19eeebb9fe35da158ee5ff5425219566dd08c5e078a20e5", func := "understory/understorylaw19.NetTimers", spec := "netTimers", inPlace := ["slices.overlaps[understory/api.Link]", "slices.overlaps[understory/api.Timer]"], unfollowed := true, recurses := true, plainKeys := false, apart := false, narrowed := true }
def NetTimersUptoSaid : Prop := netTimersUptoRow.holds Try.pinned (OpenSpec.upto netTimersSpec)

/-- 'understorylaw19.NetCuts', WHERE WHAT IT READS IS OF BULK AT MOST 1048576: true; the input reads as it did. -/
def netCutsUptoRow : OpenClaim := { program := "ythlbmcfliejdiaa", sum := "084567e7121b02f7e19eeebb9fe35da158ee5ff5425219566dd08c5e078a20e5", func := "understory/understorylaw19.NetCuts", spec := "netCuts", inPlace := ["slices.overlaps[understory/api.Link]", "slices.overlaps[understory/api.Timer]"], unfollowed := true, recurses := true, plainKeys := false, apart := false, narrowed := true }
def NetCutsUptoSaid : Prop := netCutsUptoRow.holds Try.pinned (OpenSpec.upto netCutsSpec)

/-- 'understorylaw19.NetTwoWays', WHERE WHAT IT READS IS OF BULK AT MOST 1048576: true; the input reads as it did. -/
def netTwoWaysUptoRow : OpenClaim := { program := "ythlbmcfliejdiaa", sum := "084567e7121b02f7e19eeebb9fe35da158ee5ff5425219566dd08c5e078a20e5", func := "understory/understorylaw19.NetTwoWays", spec := "netTwoWays", inPlace := ["slices.overlaps[understory/api.Link]", "slices.overlaps[understory/api.Timer]"], unfollowed := true, recurses := true, plainKeys := false, apart := false, narrowed := true }
def NetTwoWaysUptoSaid : Prop := netTwoWaysUptoRow.holds Try.pinned (OpenSpec.upto netTwoWaysSpec)

/-- 'understorylaw19.NetRepeats', WHERE WHAT IT READS IS OF BULK AT MOST 1048576: true; the input reads as it did. -/
def netRepeatsUptoRow : OpenClaim := { program := "ythlbmcfliejdiaa", sum := "084567e7121b02f7e19eeebb9fe35da158ee5ff5425219566dd08c5e078a20e5", func := "understory/understorylaw19.NetRepeats", spec := "netRepeats", inPlace := ["slices.overlaps[understory/api.Link]", "slices.overlaps[understory/api.Timer]"], unfollowed := true, recurses := true, plainKeys := false, apart := false, narrowed := true }
def NetRepeatsUptoSaid : Prop := netRepeatsUptoRow.holds Try.pinned (OpenSpec.upto netRepeatsSpec)

/-- 'understorylaw19.NetCalms', WHERE WHAT IT READS IS OF BULK AT MOST 1048576: true; the input reads as it did. -/
def netCalmsUptoRow : OpenClaim := { program := "ythlbmcfliejdiaa", sum := "084567e7121b02f7e19eeebb9fe35da158ee5ff5425219566dd08c5e078a20e5", func := "understory/understorylaw19.NetCalms", spec := "netCalms", inPlace := ["slices.overlaps[understory/api.Link]", "slices.overlaps[understory/api.Timer]"], unfollowed := true, recurses := true, plainKeys := false, apart := false, narrowed := true }
def NetCalmsUptoSaid : Prop := netCalmsUptoRow.holds Try.pinned (OpenSpec.upto netCalmsSpec)

/-- 'understorylaw19.NetFires', WHERE WHAT IT READS IS OF BULK AT MOST 1048576: true; the input reads as it did. -/
def netFiresUptoRow : OpenClaim := { program := "ythlbmcfliejdiaa", sum := "084567e7121b02f7e19eeebb9fe35da158ee5ff5425219566dd08c5e078a20e5", func := "understory/understorylaw19.NetFires", spec := "netFires", inPlace := ["slices.overlaps[understory/api.Link]", "slices.overlaps[understory/api.Timer]"], unfollowed := true, recurses := true, plainKeys := false, apart := false, narrowed := true }
def NetFiresUptoSaid : Prop := netFiresUptoRow.holds Try.pinned (OpenSpec.upto netFiresSpec)

end Rows
end Go.Proofs.Ythlbmcfliejdiaa
