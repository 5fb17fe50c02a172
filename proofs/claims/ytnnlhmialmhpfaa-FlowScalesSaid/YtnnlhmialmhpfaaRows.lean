/-
  No cell of these rows narrows 'for every input' (looked for: loops, veiled, ifaces, maps, wideKeys, modest, calm, conditions, laid).
  DERIVED. THE GIVEN ROWS OF THIS SEAT. 5 by the template 'for every input the law returns true; each argument reads behind the call as it read before'; 0 by the template 'total and deterministic' (their statements: YtnnlhmialmhpfaaTotals.lean).
  GIVEN WITH THE SEED: the statements are not yours to turn. If you find one false, say at which input.
  Laid BY PROGRAM, IN A SANDBOX (cutbox-rows.mjs): the forced cells as the released guide's own fill.sh prints them over the translation a9d3eff9d4055025… (all of the seat's roots in one cut). By AI agents, Wed Nov 11 2026. No macro, syntax, notation, axiom, sorry.
-/
import Derived.Test.YtnnlhmialmhpfaaChecked
import GoSem.Claim
import GoSem.ClaimJoined
import GoSem.ClaimMapViews
import Derived.JoinedTies
import Derived.KernelRfl
namespace Go.Proofs.Ytnnlhmialmhpfaa
/- THE CELL 'sum', in the pinned program and in every row, IS THE sha256 OF THE DUMP (.gsa) THAT YtnnlhmialmhpfaaProg.lean LOADS. Nothing in Lean hashes anything: it is a label: what it is worth is what the hold of that sum in a sandbox is worth. -/
noncomputable def Try.pinned : Pinned := { name := "ytnnlhmialmhpfaa", sum := "a9d3eff9d4055025308db066e27550c1d3b65410d3aa77f669e4a6faa99fee99", checked := Try.checked }
namespace Rows
def none {H : Type} : Left H := { results := [], args := [] }

/-- 'layoutlaw17.FlowChecks': WHATEVER THE INPUT: true; the input reads as it did. -/
def flowChecksSpec : ChangeSpec := { name := "flowChecks", fn := fun _ => fun
  | [d1, d2] => { results := [.lit (.bool true)], args := [d1, d2] }
  | _ => none }
def flowChecksRow : OpenClaim := { program := "ytnnlhmialmhpfaa", sum := "a9d3eff9d4055025308db066e27550c1d3b65410d3aa77f669e4a6faa99fee99", func := "layout/layoutlaw17.FlowChecks", spec := "flowChecks", unfollowed := true, recurses := true, apart := false }
def FlowChecksSaid : Prop := flowChecksRow.holds Try.pinned (OpenSpec.ofChange flowChecksSpec)

/-- ITS FALSE NEIGHBOUR: 'it returns false'. Refute it at one input. -/
def flowChecksWrong : ChangeSpec := { name := "flowChecks", fn := fun _ => fun
  | [d1, d2] => { results := [.lit (.bool false)], args := [d1, d2] }
  | _ => none }
def FlowChecksWrongFalsely : Prop := flowChecksRow.holds Try.pinned (OpenSpec.ofChange flowChecksWrong)

/-- 'layoutlaw17.FlowOptimal': WHATEVER THE INPUT: true; the input reads as it did. -/
def flowOptimalSpec : ChangeSpec := { name := "flowOptimal", fn := fun _ => fun
  | [d1, d2] => { results := [.lit (.bool true)], args := [d1, d2] }
  | _ => none }
def flowOptimalRow : OpenClaim := { program := "ytnnlhmialmhpfaa", sum := "a9d3eff9d4055025308db066e27550c1d3b65410d3aa77f669e4a6faa99fee99", func := "layout/layoutlaw17.FlowOptimal", spec := "flowOptimal", unfollowed := true, recurses := true, apart := false }
def FlowOptimalSaid : Prop := flowOptimalRow.holds Try.pinned (OpenSpec.ofChange flowOptimalSpec)

/-- ITS FALSE NEIGHBOUR: 'it returns false'. Refute it at one input. -/
def flowOptimalWrong : ChangeSpec := { name := "flowOptimal", fn := fun _ => fun
  | [d1, d2] => { results := [.lit (.bool false)], args := [d1, d2] }
  | _ => none }
def FlowOptimalWrongFalsely : Prop := flowOptimalRow.holds Try.pinned (OpenSpec.ofChange flowOptimalWrong)

/-- 'layoutlaw17.FlowSolves': WHATEVER THE INPUT: true; the input reads as it did. -/
def flowSolvesSpec : ChangeSpec := { name := "flowSolves", fn := fun _ => fun
  | [d] => { results := [.lit (.bool true)], args := [d] }
  | _ => none }
def flowSolvesRow : OpenClaim := { program := "ytnnlhmialmhpfaa", sum := "a9d3eff9d4055025308db066e27550c1d3b65410d3aa77f669e4a6faa99fee99", func := "layout/layoutlaw17.FlowSolves", spec := "flowSolves", unfollowed := true, recurses := true, apart := false }
def FlowSolvesSaid : Prop := flowSolvesRow.holds Try.pinned (OpenSpec.ofChange flowSolvesSpec)

/-- ITS FALSE NEIGHBOUR: 'it returns false'. Refute it at one input. -/
def flowSolvesWrong : ChangeSpec := { name := "flowSolves", fn := fun _ => fun
  | [d] => { results := [.lit (.bool false)], args := [d] }
  | _ => none }
def FlowSolvesWrongFalsely : Prop := flowSolvesRow.holds Try.pinned (OpenSpec.ofChange flowSolvesWrong)

/-- 'layoutlaw17.FlowLeast': WHATEVER THE INPUT: true; the input reads as it did. -/
def flowLeastSpec : ChangeSpec := { name := "flowLeast", fn := fun _ => fun
  | [d1, d2] => { results := [.lit (.bool true)], args := [d1, d2] }
  | _ => none }
def flowLeastRow : OpenClaim := { program := "ytnnlhmialmhpfaa", sum := "a9d3eff9d4055025308db066e27550c1d3b65410d3aa77f669e4a6faa99fee99", func := "layout/layoutlaw17.FlowLeast", spec := "flowLeast", unfollowed := true, recurses := true, apart := false }
def FlowLeastSaid : Prop := flowLeastRow.holds Try.pinned (OpenSpec.ofChange flowLeastSpec)

/-- ITS FALSE NEIGHBOUR: 'it returns false'. Refute it at one input. -/
def flowLeastWrong : ChangeSpec := { name := "flowLeast", fn := fun _ => fun
  | [d1, d2] => { results := [.lit (.bool false)], args := [d1, d2] }
  | _ => none }
def FlowLeastWrongFalsely : Prop := flowLeastRow.holds Try.pinned (OpenSpec.ofChange flowLeastWrong)

/-- 'layoutlaw17.FlowScales': WHATEVER THE INPUT: true; the input reads as it did. -/
def flowScalesSpec : ChangeSpec := { name := "flowScales", fn := fun _ => fun
  | [d] => { results := [.lit (.bool true)], args := [d] }
  | _ => none }
def flowScalesRow : OpenClaim := { program := "ytnnlhmialmhpfaa", sum := "a9d3eff9d4055025308db066e27550c1d3b65410d3aa77f669e4a6faa99fee99", func := "layout/layoutlaw17.FlowScales", spec := "flowScales", unfollowed := true, recurses := true, apart := false }
def FlowScalesSaid : Prop := flowScalesRow.holds Try.pinned (OpenSpec.ofChange flowScalesSpec)

/-- ITS FALSE NEIGHBOUR: 'it returns false'. Refute it at one input. -/
def flowScalesWrong : ChangeSpec := { name := "flowScales", fn := fun _ => fun
  | [d] => { results := [.lit (.bool false)], args := [d] }
  | _ => none }
def FlowScalesWrongFalsely : Prop := flowScalesRow.holds Try.pinned (OpenSpec.ofChange flowScalesWrong)

/- THE SECOND FORM. 'bulk': how many values and letters a reading holds, each counted each time it is reached (what is shared counts as often as it is met; a slice's spare places count too). A statement '..UptoSaid' is the law's where the arguments, and the package variables that the reading takes, are together of bulk at most 1048576: NARROWER than '..Said'. Prove '..Said' where nothing that the law and all that it calls make is longer than what came in: it says more and counts as full. Else prove '..UptoSaid'. A law counts once. -/
mutual
def uptoBulk {H : Type} : DataW H → Nat
  | .lit (.string bytes) => bytes.length + 1
  | .lit _ => 1
  | .nil => 1
  | .ptr d => uptoBulk d + 1
  | .slice elems spare => uptoBulkAll elems + uptoBulkAll spare + 1
  | .agg parts => uptoBulkAll parts + 1
  | .iface _ d => uptoBulk d + 1
  | .map entries => uptoBulkEntries entries + 1
  | .held _ => 1
def uptoBulkAll {H : Type} : List (DataW H) → Nat
  | [] => 0
  | d :: r => uptoBulk d + uptoBulkAll r
def uptoBulkEntries {H : Type} : List (Lit × DataW H) → Nat
  | [] => 0
  | x :: r => uptoBulkEntry x + uptoBulkEntries r
def uptoBulkEntry {H : Type} : Lit × DataW H → Nat
  | (.string bytes, d) => bytes.length + uptoBulk d + 1
  | (_, d) => uptoBulk d + 1
 end
def uptoSmall : (H : Type) → List (DataW H) → Bool := fun _ ds => decide (uptoBulkAll ds ≤ 1048576)
def OpenSpec.upto (s : _root_.Go.ChangeSpec) : _root_.Go.OpenSpec := { _root_.Go.OpenSpec.ofChange s with cond := some uptoSmall }

/-- 'layoutlaw17.FlowChecks', WHERE WHAT IT READS IS OF BULK AT MOST 1048576: true; the input reads as it did. -/
def flowChecksUptoRow : OpenClaim := { program := "ytnnlhmialmhpfaa", sum := "a9d3eff9d4055025308db066e27550c1d3b65410d3aa77f669e4a6faa99fee99", func := "layout/layoutlaw17.FlowChecks", spec := "flowChecks", unfollowed := true, recurses := true, apart := false, narrowed := true }
def FlowChecksUptoSaid : Prop := flowChecksUptoRow.holds Try.pinned (OpenSpec.upto flowChecksSpec)

/-- 'layoutlaw17.FlowOptimal', WHERE WHAT IT READS IS OF BULK AT MOST 1048576: true; the input reads as it did. -/
def flowOptimalUptoRow : OpenClaim := { program := "ytnnlhmialmhpfaa", sum := "a9d3eff9d4055025308db066e27550c1d3b65410d3aa77f669e4a6faa99fee99", func := "layout/layoutlaw17.FlowOptimal", spec := "flowOptimal", unfollowed := true, recurses := true, apart := false, narrowed := true }
def FlowOptimalUptoSaid : Prop := flowOptimalUptoRow.holds Try.pinned (OpenSpec.upto flowOptimalSpec)

/-- 'layoutlaw17.FlowSolves', WHERE WHAT IT READS IS OF BULK AT MOST 1048576: true; the input reads as it did. -/
def flowSolvesUptoRow : OpenClaim := { program := "ytnnlhmialmhpfaa", sum := "a9d3eff9d4055025308db066e27550c1d3b65410d3aa77f669e4a6faa99fee99", func := "layout/layoutlaw17.FlowSolves", spec := "flowSolves", unfollowed := true, recurses := true, apart := false, narrowed := true }
def FlowSolvesUptoSaid : Prop := flowSolvesUptoRow.holds Try.pinned (OpenSpec.upto flowSolvesSpec)

/-- 'layoutlaw17.FlowLeast', WHERE WHAT IT READS IS OF BULK AT MOST 1048576: true; the input reads as it did. -/
def flowLeastUptoRow : OpenClaim := { program := "ytnnlhmialmhpfaa", sum := "a9d3eff9d4055025308db066e27550c1d3b65410d3aa77f669e4a6faa99fee99", func := "layout/layoutlaw17.FlowLeast", spec := "flowLeast", unfollowed := true, recurses := true, apart := false, narrowed := true }
def FlowLeastUptoSaid : Prop := flowLeastUptoRow.holds Try.pinned (OpenSpec.upto flowLeastSpec)

/-- 'layoutlaw17.FlowScales', WHERE WHAT IT READS IS OF BULK AT MOST 1048576: true; the input reads as it did. -/
def flowScalesUptoRow : OpenClaim := { program := "ytnnlhmialmhpfaa", sum := "a9d3eff9d4055025308db066e27550c1d3b65410d3aa77f669e4a6faa99fee99", func := "layout/layoutlaw17.FlowScales", spec := "flowScales", unfollowed := true, recurses := true, apart := false, narrowed := true }
def FlowScalesUptoSaid : Prop := flowScalesUptoRow.holds Try.pinned (OpenSpec.upto flowScalesSpec)

end Rows
end Go.Proofs.Ytnnlhmialmhpfaa
