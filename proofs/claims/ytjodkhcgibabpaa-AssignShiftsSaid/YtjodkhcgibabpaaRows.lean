/-
  No cell of these rows narrows 'for every input' (looked for: loops, veiled, ifaces, maps, wideKeys, modest, calm, conditions, laid).
  DERIVED. THE GIVEN ROWS OF THIS SEAT. 5 by the template 'for every input the law returns true; each argument reads behind the call as it read before'; 0 by the template 'total and deterministic' (their statements: YtjodkhcgibabpaaTotals.lean).
  GIVEN WITH THE SEED: the statements are not yours to turn. If you find one false, say at which input.
  Laid BY PROGRAM, IN A SANDBOX (cutbox-rows.mjs): the forced cells as the released guide's own fill.sh prints them over the translation 06512b40308ec018… (all of the seat's roots in one cut). By AI agents, Wed Nov 11 2026. No macro, syntax, notation, axiom, sorry.
-/
import Derived.Test.YtjodkhcgibabpaaChecked
import GoSem.Claim
import GoSem.ClaimJoined
import GoSem.ClaimMapViews
import Derived.JoinedTies
import Derived.KernelRfl
namespace Go.Proofs.Ytjodkhcgibabpaa
/- THE CELL 'sum', in the pinned program and in every row, IS THE sha256 OF THE DUMP (.gsa) THAT YtjodkhcgibabpaaProg.lean LOADS. Nothing in Lean hashes anything: it is a label: what it is worth is what the hold of that sum in a sandbox is worth. -/
noncomputable def Try.pinned : Pinned := { name := "ytjodkhcgibabpaa", sum := "06512b40308ec018688bb56b350fd0a063c320d1b6d31d0bf802489edde67480", checked := Try.checked }
namespace Rows
def none {H : Type} : Left H := { results := [], args := [] }

/-- 'layoutlaw18.AssignSolves': WHATEVER THE INPUT: true; the input reads as it did. -/
def assignSolvesSpec : ChangeSpec := { name := "assignSolves", fn := fun _ => fun
  | [d] => { results := [.lit (.bool true)], args := [d] }
  | _ => none }
def assignSolvesRow : OpenClaim := { program := "ytjodkhcgibabpaa", sum := "06512b40308ec018688bb56b350fd0a063c320d1b6d31d0bf802489edde67480", func := "layout/layoutlaw18.AssignSolves", spec := "assignSolves", unfollowed := true, recurses := true, apart := false }
def AssignSolvesSaid : Prop := assignSolvesRow.holds Try.pinned (OpenSpec.ofChange assignSolvesSpec)

/-- ITS FALSE NEIGHBOUR: 'it returns false'. Refute it at one input. -/
def assignSolvesWrong : ChangeSpec := { name := "assignSolves", fn := fun _ => fun
  | [d] => { results := [.lit (.bool false)], args := [d] }
  | _ => none }
def AssignSolvesWrongFalsely : Prop := assignSolvesRow.holds Try.pinned (OpenSpec.ofChange assignSolvesWrong)

/-- 'layoutlaw18.AssignOptimal': WHATEVER THE INPUT: true; the input reads as it did. -/
def assignOptimalSpec : ChangeSpec := { name := "assignOptimal", fn := fun _ => fun
  | [d1, d2] => { results := [.lit (.bool true)], args := [d1, d2] }
  | _ => none }
def assignOptimalRow : OpenClaim := { program := "ytjodkhcgibabpaa", sum := "06512b40308ec018688bb56b350fd0a063c320d1b6d31d0bf802489edde67480", func := "layout/layoutlaw18.AssignOptimal", spec := "assignOptimal", unfollowed := true, recurses := true, apart := false }
def AssignOptimalSaid : Prop := assignOptimalRow.holds Try.pinned (OpenSpec.ofChange assignOptimalSpec)

/-- ITS FALSE NEIGHBOUR: 'it returns false'. Refute it at one input. -/
def assignOptimalWrong : ChangeSpec := { name := "assignOptimal", fn := fun _ => fun
  | [d1, d2] => { results := [.lit (.bool false)], args := [d1, d2] }
  | _ => none }
def AssignOptimalWrongFalsely : Prop := assignOptimalRow.holds Try.pinned (OpenSpec.ofChange assignOptimalWrong)

/-- 'layoutlaw18.AssignShifts': WHATEVER THE INPUT: true; the input reads as it did. -/
def assignShiftsSpec : ChangeSpec := { name := "assignShifts", fn := fun _ => fun
  | [d1, d2, d3] => { results := [.lit (.bool true)], args := [d1, d2, d3] }
  | _ => none }
def assignShiftsRow : OpenClaim := { program := "ytjodkhcgibabpaa", sum := "06512b40308ec018688bb56b350fd0a063c320d1b6d31d0bf802489edde67480", func := "layout/layoutlaw18.AssignShifts", spec := "assignShifts", unfollowed := true, recurses := true, apart := false }
def AssignShiftsSaid : Prop := assignShiftsRow.holds Try.pinned (OpenSpec.ofChange assignShiftsSpec)

/-- ITS FALSE NEIGHBOUR: 'it returns false'. Refute it at one input. -/
def assignShiftsWrong : ChangeSpec := { name := "assignShifts", fn := fun _ => fun
  | [d1, d2, d3] => { results := [.lit (.bool false)], args := [d1, d2, d3] }
  | _ => none }
def AssignShiftsWrongFalsely : Prop := assignShiftsRow.holds Try.pinned (OpenSpec.ofChange assignShiftsWrong)

/-- 'layoutlaw18.AssignWidens': WHATEVER THE INPUT: true; the input reads as it did. -/
def assignWidensSpec : ChangeSpec := { name := "assignWidens", fn := fun _ => fun
  | [d1, d2] => { results := [.lit (.bool true)], args := [d1, d2] }
  | _ => none }
def assignWidensRow : OpenClaim := { program := "ytjodkhcgibabpaa", sum := "06512b40308ec018688bb56b350fd0a063c320d1b6d31d0bf802489edde67480", func := "layout/layoutlaw18.AssignWidens", spec := "assignWidens", unfollowed := true, recurses := true, apart := false }
def AssignWidensSaid : Prop := assignWidensRow.holds Try.pinned (OpenSpec.ofChange assignWidensSpec)

/-- ITS FALSE NEIGHBOUR: 'it returns false'. Refute it at one input. -/
def assignWidensWrong : ChangeSpec := { name := "assignWidens", fn := fun _ => fun
  | [d1, d2] => { results := [.lit (.bool false)], args := [d1, d2] }
  | _ => none }
def AssignWidensWrongFalsely : Prop := assignWidensRow.holds Try.pinned (OpenSpec.ofChange assignWidensWrong)

/-- 'layoutlaw18.AssignCosts': WHATEVER THE INPUT: true; the input reads as it did. -/
def assignCostsSpec : ChangeSpec := { name := "assignCosts", fn := fun _ => fun
  | [d1, d2] => { results := [.lit (.bool true)], args := [d1, d2] }
  | _ => none }
def assignCostsRow : OpenClaim := { program := "ytjodkhcgibabpaa", sum := "06512b40308ec018688bb56b350fd0a063c320d1b6d31d0bf802489edde67480", func := "layout/layoutlaw18.AssignCosts", spec := "assignCosts", unfollowed := true, recurses := true, apart := false }
def AssignCostsSaid : Prop := assignCostsRow.holds Try.pinned (OpenSpec.ofChange assignCostsSpec)

/-- ITS FALSE NEIGHBOUR: 'it returns false'. Refute it at one input. -/
def assignCostsWrong : ChangeSpec := { name := "assignCosts", fn := fun _ => fun
  | [d1, d2] => { results := [.lit (.bool false)], args := [d1, d2] }
  | _ => none }
def AssignCostsWrongFalsely : Prop := assignCostsRow.holds Try.pinned (OpenSpec.ofChange assignCostsWrong)

/- THE SECOND FORM. 'bulk': how many values and letters a reading holds, each counted each time it is reached (what is shared counts as often as it is met; a slice's spare places count too). A statement '..UptoSaid' is the law's where the arguments, and the package variables that the reading takes, are together of bulk at most 1048576: NARROWER than '..Said'. Prove '..Said' where nothing that the law and all that it calls make is longer than what came in: it says more and counts as full. Else prove '..UptoSaid'. A law counts once. -/
mutual
def uptoBulk {H : Type} : DataW H → Nat
  | .lit (.string bytes) => bytes.length + 1
  | .lit _ => 1
  | .nil => 1
  | .ptr d => uptoBulk d + 1
  | .slice elems spare => uptoBulkAll elems + uptoBulkAll spare + 1
  | .agg parts => uptoBulkAll parts + 1
  | .iface _ d => uptoBulk d + 1
  | .map entries => uptoBulkEntries entries + 1
  | .held _ => 1
def uptoBulkAll {H : Type} : List (DataW H) → Nat
  | [] => 0
  | d :: r => uptoBulk d + uptoBulkAll r
def uptoBulkEntries {H : Type} : List (Lit × DataW H) → Nat
  | [] => 0
  | x :: r => uptoBulkEntry x + uptoBulkEntries r
def uptoBulkEntry {H : Type} : Lit × DataW H → Nat
  | (.string bytes, d) => bytes.length + uptoBulk d + 1
  | (_, d) => uptoBulk d + 1
 end
def uptoSmall : (H : Type) → List (DataW H) → Bool := fun _ ds => decide (uptoBulkAll ds ≤ 1048576)
def OpenSpec.upto (s : _root_.Go.ChangeSpec) : _root_.Go.OpenSpec := { _root_.Go.OpenSpec.ofChange s with cond := some uptoSmall }

/-- 'layoutlaw18.AssignSolves', WHERE WHAT IT READS IS OF BULK AT MOST 1048576: true; the input reads as it did. -/
def assignSolvesUptoRow : OpenClaim := { program := "ytjodkhcgibabpaa", sum := "06512b40308ec018688bb56b350fd0a063c320d1b6d31d0bf802489edde67480", func := "layout/layoutlaw18.AssignSolves", spec := "assignSolves", unfollowed := true, recurses := true, apart := false, narrowed := true }
def AssignSolvesUptoSaid : Prop := assignSolvesUptoRow.holds Try.pinned (OpenSpec.upto assignSolvesSpec)

/-- 'layoutlaw18.AssignOptimal', WHERE WHAT IT READS IS OF BULK AT MOST 1048576: true; the input reads as it did. -/
def assignOptimalUptoRow : OpenClaim := { program := "ytjodkhcgibabpaa", sum := "06512b40308ec018688bb56b350fd0a063c320d1b6d31d0bf802489edde67480", func := "layout/layoutlaw18.AssignOptimal", spec := "assignOptimal", unfollowed := true, recurses := true, apart := false, narrowed := true }
def AssignOptimalUptoSaid : Prop := assignOptimalUptoRow.holds Try.pinned (OpenSpec.upto assignOptimalSpec)

/-- 'layoutlaw18.AssignShifts', WHERE WHAT IT READS IS OF BULK AT MOST 1048576: true; the input reads as it did. -/
def assignShiftsUptoRow : OpenClaim := { program := "ytjodkhcgibabpaa", sum := "06512b40308ec018688bb56b350fd0a063c320d1b6d31d0bf802489edde67480", func := "layout/layoutlaw18.AssignShifts", spec := "assignShifts", unfollowed := true, recurses := true, apart := false, narrowed := true }
def AssignShiftsUptoSaid : Prop := assignShiftsUptoRow.holds Try.pinned (OpenSpec.upto assignShiftsSpec)

/-- 'layoutlaw18.AssignWidens', WHERE WHAT IT READS IS OF BULK AT MOST 1048576: true; the input reads as it did. -/
def assignWidensUptoRow : OpenClaim := { program := "ytjodkhcgibabpaa", sum := "06512b40308ec018688bb56b350fd0a063c320d1b6d31d0bf802489edde67480", func := "layout/layoutlaw18.AssignWidens", spec := "assignWidens", unfollowed := true, recurses := true, apart := false, narrowed := true }
def AssignWidensUptoSaid : Prop := assignWidensUptoRow.holds Try.pinned (OpenSpec.upto assignWidensSpec)

/-- 'layoutlaw18.AssignCosts', WHERE WHAT IT READS IS OF BULK AT MOST 1048576: true; the input reads as it did. -/
def assignCostsUptoRow : OpenClaim := { program := "ytjodkhcgibabpaa", sum := "06512b40308ec018688bb56b350fd0a063c320d1b6d31d0bf802489edde67480", func := "layout/layoutlaw18.AssignCosts", spec := "assignCosts", unfollowed := true, recurses := true, apart := false, narrowed := true }
def AssignCostsUptoSaid : Prop := assignCostsUptoRow.holds Try.pinned (OpenSpec.upto assignCostsSpec)

end Rows
end Go.Proofs.Ytjodkhcgibabpaa
