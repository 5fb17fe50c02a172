/-
  No cell of these rows narrows 'for every input' (looked for: loops, veiled, ifaces, maps, wideKeys, modest, calm, conditions, laid).
  DERIVED. THE GIVEN ROWS OF THIS SEAT. 5 by the template 'for every input the law returns true; each argument reads behind the call as it read before'; 0 by the template 'total and deterministic' (their statements: YtnodgagmnekliaaTotals.lean).
  GIVEN WITH THE SEED: the statements are not yours to turn. If you find one false, say at which input.
  Laid BY PROGRAM, IN A SANDBOX (cutbox-rows.mjs): the forced cells as the released guide's own fill.sh prints them over the translation 5ca930ecaf5a5b14… (all of the seat's roots in one cut). By AI agents, Wed Nov 11 2026. No macro, syntax, notation, axiom, sorry.
-/
import Derived.Test.YtnodgagmnekliaaChecked
import GoSem.Claim
import GoSem.ClaimJoined
import GoSem.ClaimMapViews
import Derived.JoinedTies
import Derived.KernelRfl
namespace Go.Proofs.Ytnodgagmnekliaa
/- THE CELL 'sum', in the pinned program and in every row, IS THE sha256 OF THE DUMP (.gsa) THAT YtnodgagmnekliaaProg.lean LOADS. Nothing in Lean hashes anything: it is a label: what it is worth is what the hold of that sum in a sandbox is worth. -/
noncomputable def Try.pinned : Pinned := { name := "ytnodgagmnekliaa", sum := "5ca930ecaf5a5b14d8fc02fd2445eaadb26b34184cbde4d01cc4da367c32cad9", checked := Try.checked }
namespace Rows
def none {H : Type} : Left H := { results := [], args := [] }

/-- 'layoutlaw24.BoundFinds': WHATEVER THE INPUT: true; the input reads as it did. -/
def boundFindsSpec : ChangeSpec := { name := "boundFinds", fn := fun _ => fun
  | [d] => { results := [.lit (.bool true)], args := [d] }
  | _ => none }
def boundFindsRow : OpenClaim := { program := "ytnodgagmnekliaa", sum := "5ca930ecaf5a5b14d8fc02fd2445eaadb26b34184cbde4d01cc4da367c32cad9", func := "layout/layoutlaw24.BoundFinds", spec := "boundFinds", unfollowed := true, recurses := true, apart := false }
def BoundFindsSaid : Prop := boundFindsRow.holds Try.pinned (OpenSpec.ofChange boundFindsSpec)

/-- ITS FALSE NEIGHBOUR: 'it returns false'. Refute it at one input. -/
def boundFindsWrong : ChangeSpec := { name := "boundFinds", fn := fun _ => fun
  | [d] => { results := [.lit (.bool false)], args := [d] }
  | _ => none }
def BoundFindsWrongFalsely : Prop := boundFindsRow.holds Try.pinned (OpenSpec.ofChange boundFindsWrong)

/-- 'layoutlaw24.BoundOptimal': WHATEVER THE INPUT: true; the input reads as it did. -/
def boundOptimalSpec : ChangeSpec := { name := "boundOptimal", fn := fun _ => fun
  | [d1, d2] => { results := [.lit (.bool true)], args := [d1, d2] }
  | _ => none }
def boundOptimalRow : OpenClaim := { program := "ytnodgagmnekliaa", sum := "5ca930ecaf5a5b14d8fc02fd2445eaadb26b34184cbde4d01cc4da367c32cad9", func := "layout/layoutlaw24.BoundOptimal", spec := "boundOptimal", unfollowed := true, recurses := true, apart := false }
def BoundOptimalSaid : Prop := boundOptimalRow.holds Try.pinned (OpenSpec.ofChange boundOptimalSpec)

/-- ITS FALSE NEIGHBOUR: 'it returns false'. Refute it at one input. -/
def boundOptimalWrong : ChangeSpec := { name := "boundOptimal", fn := fun _ => fun
  | [d1, d2] => { results := [.lit (.bool false)], args := [d1, d2] }
  | _ => none }
def BoundOptimalWrongFalsely : Prop := boundOptimalRow.holds Try.pinned (OpenSpec.ofChange boundOptimalWrong)

/-- 'layoutlaw24.BoundShifts': WHATEVER THE INPUT: true; the input reads as it did. -/
def boundShiftsSpec : ChangeSpec := { name := "boundShifts", fn := fun _ => fun
  | [d1, d2, d3] => { results := [.lit (.bool true)], args := [d1, d2, d3] }
  | _ => none }
def boundShiftsRow : OpenClaim := { program := "ytnodgagmnekliaa", sum := "5ca930ecaf5a5b14d8fc02fd2445eaadb26b34184cbde4d01cc4da367c32cad9", func := "layout/layoutlaw24.BoundShifts", spec := "boundShifts", unfollowed := true, recurses := true, apart := false }
def BoundShiftsSaid : Prop := boundShiftsRow.holds Try.pinned (OpenSpec.ofChange boundShiftsSpec)

/-- ITS FALSE NEIGHBOUR: 'it returns false'. Refute it at one input. -/
def boundShiftsWrong : ChangeSpec := { name := "boundShifts", fn := fun _ => fun
  | [d1, d2, d3] => { results := [.lit (.bool false)], args := [d1, d2, d3] }
  | _ => none }
def BoundShiftsWrongFalsely : Prop := boundShiftsRow.holds Try.pinned (OpenSpec.ofChange boundShiftsWrong)

/-- 'layoutlaw24.BoundTight': WHATEVER THE INPUT: true; the input reads as it did. -/
def boundTightSpec : ChangeSpec := { name := "boundTight", fn := fun _ => fun
  | [d1, d2] => { results := [.lit (.bool true)], args := [d1, d2] }
  | _ => none }
def boundTightRow : OpenClaim := { program := "ytnodgagmnekliaa", sum := "5ca930ecaf5a5b14d8fc02fd2445eaadb26b34184cbde4d01cc4da367c32cad9", func := "layout/layoutlaw24.BoundTight", spec := "boundTight", unfollowed := true, recurses := true, apart := false }
def BoundTightSaid : Prop := boundTightRow.holds Try.pinned (OpenSpec.ofChange boundTightSpec)

/-- ITS FALSE NEIGHBOUR: 'it returns false'. Refute it at one input. -/
def boundTightWrong : ChangeSpec := { name := "boundTight", fn := fun _ => fun
  | [d1, d2] => { results := [.lit (.bool false)], args := [d1, d2] }
  | _ => none }
def BoundTightWrongFalsely : Prop := boundTightRow.holds Try.pinned (OpenSpec.ofChange boundTightWrong)

/-- 'layoutlaw24.BoundCosts': WHATEVER THE INPUT: true; the input reads as it did. -/
def boundCostsSpec : ChangeSpec := { name := "boundCosts", fn := fun _ => fun
  | [d1, d2] => { results := [.lit (.bool true)], args := [d1, d2] }
  | _ => none }
def boundCostsRow : OpenClaim := { program := "ytnodgagmnekliaa", sum := "5ca930ecaf5a5b14d8fc02fd2445eaadb26b34184cbde4d01cc4da367c32cad9", func := "layout/layoutlaw24.BoundCosts", spec := "boundCosts", unfollowed := true, recurses := true, apart := false }
def BoundCostsSaid : Prop := boundCostsRow.holds Try.pinned (OpenSpec.ofChange boundCostsSpec)

/-- ITS FALSE NEIGHBOUR: 'it returns false'. Refute it at one input. -/
def boundCostsWrong : ChangeSpec := { name := "boundCosts", fn := fun _ => fun
  | [d1, d2] => { results := [.lit (.bool false)], args := [d1, d2] }
  | _ => none }
def BoundCostsWrongFalsely : Prop := boundCostsRow.holds Try.pinned (OpenSpec.ofChange boundCostsWrong)

/- THE SECOND FORM. 'bulk': how many values and letters a reading holds, each counted each time it is reached (what is shared counts as often as it is met; a slice's spare places count too). A statement '..UptoSaid' is the law's where the arguments, and the package variables that the reading takes, are together of bulk at most 1048576: NARROWER than '..Said'. Prove '..Said' where nothing that the law and all that it calls make is longer than what came in: it says more and counts as full. Else prove '..UptoSaid'. A law counts once. -/
mutual
def uptoBulk {H : Type} : DataW H → Nat
  | .lit (.string bytes) => bytes.length + 1
  | .lit _ => 1
  | .nil => 1
  | .ptr d => uptoBulk d + 1
  | .slice elems spare => uptoBulkAll elems + uptoBulkAll spare + 1
  | .agg parts => uptoBulkAll parts + 1
  | .iface _ d => uptoBulk d + 1
  | .map entries => uptoBulkEntries entries + 1
  | .held _ => 1
def uptoBulkAll {H : Type} : List (DataW H) → Nat
  | [] => 0
  | d :: r => uptoBulk d + uptoBulkAll r
def uptoBulkEntries {H : Type} : List (Lit × DataW H) → Nat
  | [] => 0
  | x :: r => uptoBulkEntry x + uptoBulkEntries r
def uptoBulkEntry {H : Type} : Lit × DataW H → Nat
  | (.string bytes, d) => bytes.length + uptoBulk d + 1
  | (_, d) => uptoBulk d + 1
 end
def uptoSmall : (H : Type) → List (DataW H) → Bool := fun _ ds => decide (uptoBulkAll ds ≤ 1048576)
def OpenSpec.upto (s : _root_.Go.ChangeSpec) : _root_.Go.OpenSpec := { _root_.Go.OpenSpec.ofChange s with cond := some uptoSmall }

/-- 'layoutlaw24.BoundFinds', WHERE WHAT IT READS IS OF BULK AT MOST 1048576: true; the input reads as it did. -/
def boundFindsUptoRow : OpenClaim := { program := "ytnodgagmnekliaa", sum := "5ca930ecaf5a5b14d8fc02fd2445eaadb26b34184cbde4d01cc4da367c32cad9", func := "layout/layoutlaw24.BoundFinds", spec := "boundFinds", unfollowed := true, recurses := true, apart := false, narrowed := true }
def BoundFindsUptoSaid : Prop := boundFindsUptoRow.holds Try.pinned (OpenSpec.upto boundFindsSpec)

/-- 'layoutlaw24.BoundOptimal', WHERE WHAT IT READS IS OF BULK AT MOST 1048576: true; the input reads as it did. -/
def boundOptimalUptoRow : OpenClaim := { program := "ytnodgagmnekliaa", sum := "5ca930ecaf5a5b14d8fc02fd2445eaadb26b34184cbde4d01cc4da367c32cad9", func := "layout/layoutlaw24.BoundOptimal", spec := "boundOptimal", unfollowed := true, recurses := true, apart := false, narrowed := true }
def BoundOptimalUptoSaid : Prop := boundOptimalUptoRow.holds Try.pinned (OpenSpec.upto boundOptimalSpec)

/-- 'layoutlaw24.BoundShifts', WHERE WHAT IT READS IS OF BULK AT MOST 1048576: true; the input reads as it did. -/
def boundShiftsUptoRow : OpenClaim := { program := "ytnodgagmnekliaa", sum := "5ca930ecaf5a5b14d8fc02fd2445eaadb26b34184cbde4d01cc4da367c32cad9", func := "layout/layoutlaw24.BoundShifts", spec := "boundShifts", unfollowed := true, recurses := true, apart := false, narrowed := true }
def BoundShiftsUptoSaid : Prop := boundShiftsUptoRow.holds Try.pinned (OpenSpec.upto boundShiftsSpec)

/-- 'layoutlaw24.BoundTight', WHERE WHAT IT READS IS OF BULK AT MOST 1048576: true; the input reads as it did. -/
def boundTightUptoRow : OpenClaim := { program := "ytnodgagmnekliaa", sum := "5ca930ecaf5a5b14d8fc02fd2445eaadb26b34184cbde4d01cc4da367c32cad9", func := "layout/layoutlaw24.BoundTight", spec := "boundTight", unfollowed := true, recurses := true, apart := false, narrowed := true }
def BoundTightUptoSaid : Prop := boundTightUptoRow.holds Try.pinned (OpenSpec.upto boundTightSpec)

/-- 'layoutlaw24.BoundCosts', WHERE WHAT IT READS IS OF BULK AT MOST 1048576: true; the input reads as it did. -/
def boundCostsUptoRow : OpenClaim := { program := "ytnodgagmnekliaa", sum := "5ca930ecaf5a5b14d8fc02fd2445eaadb26b34184cbde4d01cc4da367c32cad9", func := "layout/layoutlaw24.BoundCosts", spec := "boundCosts", unfollowed := true, recurses := true, apart := false, narrowed := true }
def BoundCostsUptoSaid : Prop := boundCostsUptoRow.holds Try.pinned (OpenSpec.upto boundCostsSpec)

end Rows
end Go.Proofs.Ytnodgagmnekliaa
