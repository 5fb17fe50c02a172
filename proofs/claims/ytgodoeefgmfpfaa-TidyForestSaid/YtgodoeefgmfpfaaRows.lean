/-
  No cell of these rows narrows 'for every input' (looked for: loops, veiled, ifaces, maps, wideKeys, modest, calm, conditions, laid).
  DERIVED. THE GIVEN ROWS OF THIS SEAT. 5 by the template 'for every input the law returns true; each argument reads behind the call as it read before'; 0 by the template 'total and deterministic' (their statements: YtgodoeefgmfpfaaTotals.lean).
  GIVEN WITH THE SEED: the statements are not yours to turn. If you find one false, say at which input.
  Laid BY PROGRAM, IN A SANDBOX (cutbox-rows.mjs): the forced cells as the released guide's own fill.sh prints them over the translation 4462aa121a259c6f… (all of the seat's roots in one cut). By AI agents, Wed Nov 11 2026. No macro, syntax, notation, axiom, sorry.
-/
import Derived.Test.YtgodoeefgmfpfaaChecked
import GoSem.Claim
import GoSem.ClaimJoined
import GoSem.ClaimMapViews
import Derived.JoinedTies
import Derived.KernelRfl
namespace Go.Proofs.Ytgodoeefgmfpfaa
/- THE CELL 'sum', in the pinned program and in every row, IS THE sha256 OF THE DUMP (.gsa) THAT YtgodoeefgmfpfaaProg.lean LOADS. Nothing in Lean hashes anything: it is a label: what it is worth is what the hold of that sum in a sandbox is worth. -/
noncomputable def Try.pinned : Pinned := { name := "ytgodoeefgmfpfaa", sum := "4462aa121a259c6f3019452eecd3ab662c1ecf0d552766a58c273444d183349a", checked := Try.checked }
namespace Rows
def none {H : Type} : Left H := { results := [], args := [] }

/-- 'layoutlaw44.TidyPlaces': WHATEVER THE INPUT: true; the input reads as it did. -/
def tidyPlacesSpec : ChangeSpec := { name := "tidyPlaces", fn := fun _ => fun
  | [d1, d2, d3] => { results := [.lit (.bool true)], args := [d1, d2, d3] }
  | _ => none }
def tidyPlacesRow : OpenClaim := { program := "ytgodoeefgmfpfaa", sum := "4462aa121a259c6f3019452eecd3ab662c1ecf0d552766a58c273444d183349a", func := "layout/layoutlaw44.TidyPlaces", spec := "tidyPlaces", unfollowed := true, recurses := true, apart := false }
def TidyPlacesSaid : Prop := tidyPlacesRow.holds Try.pinned (OpenSpec.ofChange tidyPlacesSpec)

/-- ITS FALSE NEIGHBOUR: 'it returns false'. Refute it at one input. -/
def tidyPlacesWrong : ChangeSpec := { name := "tidyPlaces", fn := fun _ => fun
  | [d1, d2, d3] => { results := [.lit (.bool false)], args := [d1, d2, d3] }
  | _ => none }
def TidyPlacesWrongFalsely : Prop := tidyPlacesRow.holds Try.pinned (OpenSpec.ofChange tidyPlacesWrong)

/-- 'layoutlaw44.TidySeparates': WHATEVER THE INPUT: true; the input reads as it did. -/
def tidySeparatesSpec : ChangeSpec := { name := "tidySeparates", fn := fun _ => fun
  | [d1, d2, d3] => { results := [.lit (.bool true)], args := [d1, d2, d3] }
  | _ => none }
def tidySeparatesRow : OpenClaim := { program := "ytgodoeefgmfpfaa", sum := "4462aa121a259c6f3019452eecd3ab662c1ecf0d552766a58c273444d183349a", func := "layout/layoutlaw44.TidySeparates", spec := "tidySeparates", unfollowed := true, recurses := true, apart := false }
def TidySeparatesSaid : Prop := tidySeparatesRow.holds Try.pinned (OpenSpec.ofChange tidySeparatesSpec)

/-- ITS FALSE NEIGHBOUR: 'it returns false'. Refute it at one input. -/
def tidySeparatesWrong : ChangeSpec := { name := "tidySeparates", fn := fun _ => fun
  | [d1, d2, d3] => { results := [.lit (.bool false)], args := [d1, d2, d3] }
  | _ => none }
def TidySeparatesWrongFalsely : Prop := tidySeparatesRow.holds Try.pinned (OpenSpec.ofChange tidySeparatesWrong)

/-- 'layoutlaw44.TidyCompact': WHATEVER THE INPUT: true; the input reads as it did. -/
def tidyCompactSpec : ChangeSpec := { name := "tidyCompact", fn := fun _ => fun
  | [d1, d2, d3] => { results := [.lit (.bool true)], args := [d1, d2, d3] }
  | _ => none }
def tidyCompactRow : OpenClaim := { program := "ytgodoeefgmfpfaa", sum := "4462aa121a259c6f3019452eecd3ab662c1ecf0d552766a58c273444d183349a", func := "layout/layoutlaw44.TidyCompact", spec := "tidyCompact", unfollowed := true, recurses := true, apart := false }
def TidyCompactSaid : Prop := tidyCompactRow.holds Try.pinned (OpenSpec.ofChange tidyCompactSpec)

/-- ITS FALSE NEIGHBOUR: 'it returns false'. Refute it at one input. -/
def tidyCompactWrong : ChangeSpec := { name := "tidyCompact", fn := fun _ => fun
  | [d1, d2, d3] => { results := [.lit (.bool false)], args := [d1, d2, d3] }
  | _ => none }
def TidyCompactWrongFalsely : Prop := tidyCompactRow.holds Try.pinned (OpenSpec.ofChange tidyCompactWrong)

/-- 'layoutlaw44.TidyDepths': WHATEVER THE INPUT: true; the input reads as it did. -/
def tidyDepthsSpec : ChangeSpec := { name := "tidyDepths", fn := fun _ => fun
  | [d] => { results := [.lit (.bool true)], args := [d] }
  | _ => none }
def tidyDepthsRow : OpenClaim := { program := "ytgodoeefgmfpfaa", sum := "4462aa121a259c6f3019452eecd3ab662c1ecf0d552766a58c273444d183349a", func := "layout/layoutlaw44.TidyDepths", spec := "tidyDepths", unfollowed := true, recurses := true, apart := false }
def TidyDepthsSaid : Prop := tidyDepthsRow.holds Try.pinned (OpenSpec.ofChange tidyDepthsSpec)

/-- ITS FALSE NEIGHBOUR: 'it returns false'. Refute it at one input. -/
def tidyDepthsWrong : ChangeSpec := { name := "tidyDepths", fn := fun _ => fun
  | [d] => { results := [.lit (.bool false)], args := [d] }
  | _ => none }
def TidyDepthsWrongFalsely : Prop := tidyDepthsRow.holds Try.pinned (OpenSpec.ofChange tidyDepthsWrong)

/-- 'layoutlaw44.TidyForest': WHATEVER THE INPUT: true; the input reads as it did. -/
def tidyForestSpec : ChangeSpec := { name := "tidyForest", fn := fun _ => fun
  | [d] => { results := [.lit (.bool true)], args := [d] }
  | _ => none }
def tidyForestRow : OpenClaim := { program := "ytgodoeefgmfpfaa", sum := "4462aa121a259c6f3019452eecd3ab662c1ecf0d552766a58c273444d183349a", func := "layout/layoutlaw44.TidyForest", spec := "tidyForest", unfollowed := true, recurses := true, apart := false }
def TidyForestSaid : Prop := tidyForestRow.holds Try.pinned (OpenSpec.ofChange tidyForestSpec)

/-- ITS FALSE NEIGHBOUR: 'it returns false'. Refute it at one input. -/
def tidyForestWrong : ChangeSpec := { name := "tidyForest", fn := fun _ => fun
  | [d] => { results := [.lit (.bool false)], args := [d] }
  | _ => none }
def TidyForestWrongFalsely : Prop := tidyForestRow.holds Try.pinned (OpenSpec.ofChange tidyForestWrong)

/- THE SECOND FORM. 'bulk': how many values and letters a reading holds, each counted each time it is reached (what is shared counts as often as it is met; a slice's spare places count too). A statement '..UptoSaid' is the law's where the arguments, and the package variables that the reading takes, are together of bulk at most 1048576: NARROWER than '..Said'. Prove '..Said' where nothing that the law and all that it calls make is longer than what came in: it says more and counts as full. Else prove '..UptoSaid'. A law counts once. -/
mutual
def uptoBulk {H : Type} : DataW H → Nat
  | .lit (.string bytes) => bytes.length + 1
  | .lit _ => 1
  | .nil => 1
  | .ptr d => uptoBulk d + 1
  | .slice elems spare => uptoBulkAll elems + uptoBulkAll spare + 1
  | .agg parts => uptoBulkAll parts + 1
  | .iface _ d => uptoBulk d + 1
  | .map entries => uptoBulkEntries entries + 1
  | .held _ => 1
def uptoBulkAll {H : Type} : List (DataW H) → Nat
  | [] => 0
  | d :: r => uptoBulk d + uptoBulkAll r
def uptoBulkEntries {H : Type} : List (Lit × DataW H) → Nat
  | [] => 0
  | x :: r => uptoBulkEntry x + uptoBulkEntries r
def uptoBulkEntry {H : Type} : Lit × DataW H → Nat
  | (.string bytes, d) => bytes.length + uptoBulk d + 1
  | (_, d) => uptoBulk d + 1
 end
def uptoSmall : (H : Type) → List (DataW H) → Bool := fun _ ds => decide (uptoBulkAll ds ≤ 1048576)
def OpenSpec.upto (s : _root_.Go.ChangeSpec) : _root_.Go.OpenSpec := { _root_.Go.OpenSpec.ofChange s with cond := some uptoSmall }

/-- 'layoutlaw44.TidyPlaces', WHERE WHAT IT READS IS OF BULK AT MOST 1048576: true; the input reads as it did. -/
def tidyPlacesUptoRow : OpenClaim := { program := "ytgodoeefgmfpfaa", sum := "4462aa121a259c6f3019452eecd3ab662c1ecf0d552766a58c273444d183349a", func := "layout/layoutlaw44.TidyPlaces", spec := "tidyPlaces", unfollowed := true, recurses := true, apart := false, narrowed := true }
def TidyPlacesUptoSaid : Prop := tidyPlacesUptoRow.holds Try.pinned (OpenSpec.upto tidyPlacesSpec)

/-- 'layoutlaw44.TidySeparates', WHERE WHAT IT READS IS OF BULK AT MOST 1048576: true; the input reads as it did. -/
def tidySeparatesUptoRow : OpenClaim := { program := "ytgodoeefgmfpfaa", sum := "4462aa121a259c6f3019452eecd3ab662c1ecf0d552766a58c273444d183349a", func := "layout/layoutlaw44.TidySeparates", spec := "tidySeparates", unfollowed := true, recurses := true, apart := false, narrowed := true }
def TidySeparatesUptoSaid : Prop := tidySeparatesUptoRow.holds Try.pinned (OpenSpec.upto tidySeparatesSpec)

/-- 'layoutlaw44.TidyCompact', WHERE WHAT IT READS IS OF BULK AT MOST 1048576: true; the input reads as it did. -/
def tidyCompactUptoRow : OpenClaim := { program := "ytgodoeefgmfpfaa", sum := "4462aa121a259c6f3019452eecd3ab662c1ecf0d552766a58c273444d183349a", func := "layout/layoutlaw44.TidyCompact", spec := "tidyCompact", unfollowed := true, recurses := true, apart := false, narrowed := true }
def TidyCompactUptoSaid : Prop := tidyCompactUptoRow.holds Try.pinned (OpenSpec.upto tidyCompactSpec)

/-- 'layoutlaw44.TidyDepths', WHERE WHAT IT READS IS OF BULK AT MOST 1048576: true; the input reads as it did. -/
def tidyDepthsUptoRow : OpenClaim := { program := "ytgodoeefgmfpfaa", sum := "4462aa121a259c6f3019452eecd3ab662c1ecf0d552766a58c273444d183349a", func := "layout/layoutlaw44.TidyDepths", spec := "tidyDepths", unfollowed := true, recurses := true, apart := false, narrowed := true }
def TidyDepthsUptoSaid : Prop := tidyDepthsUptoRow.holds Try.pinned (OpenSpec.upto tidyDepthsSpec)

/-- 'layoutlaw44.TidyForest', WHERE WHAT IT READS IS OF BULK AT MOST 1048576: true; the input reads as it did. -/
def tidyForestUptoRow : OpenClaim := { program := "ytgodoeefgmfpfaa", sum := "4462aa121a259c6f3019452eecd3ab662c1ecf0d552766a58c273444d183349a", func := "layout/layoutlaw44.TidyForest", spec := "tidyForest", unfollowed := true, recurses := true, apart := false, narrowed := true }
def TidyForestUptoSaid : Prop := tidyForestUptoRow.holds Try.pinned (OpenSpec.upto tidyForestSpec)

end Rows
end Go.Proofs.Ytgodoeefgmfpfaa
