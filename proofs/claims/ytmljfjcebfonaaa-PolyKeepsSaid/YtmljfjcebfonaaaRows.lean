/-
  No cell of these rows narrows 'for every input' (looked for: loops, veiled, ifaces, maps, wideKeys, modest, calm, conditions, laid).
  DERIVED. THE GIVEN ROWS OF THIS SEAT. 5 by the template 'for every input the law returns true; each argument reads behind the call as it read before'; 0 by the template 'total and deterministic' (their statements: YtmljfjcebfonaaaTotals.lean).
  GIVEN WITH THE SEED: the statements are not yours to turn. If you find one false, say at which input.
  Laid BY PROGRAM, IN A SANDBOX (cutbox-rows.mjs): the forced cells as the released guide's own fill.sh prints them over the translation 3c3c668ebe1895b0… (all of the seat's roots in one cut). By AI agents, Wed Nov 11 2026. No macro, syntax, notation, axiom, sorry.
-/
import Derived.Test.YtmljfjcebfonaaaChecked
import GoSem.Claim
import GoSem.ClaimJoined
import GoSem.ClaimMapViews
import Derived.JoinedTies
import Derived.KernelRfl
namespace Go.Proofs.Ytmljfjcebfonaaa
/- THE CELL 'sum', in the pinned program and in every row, IS THE sha256 OF THE DUMP (.gsa) THAT YtmljfjcebfonaaaProg.lean LOADS. Nothing in Lean hashes anything: it is a label: what it is worth is what the hold of that sum in a sandbox is worth. -/
noncomputable def Try.pinned : Pinned := { name := "ytmljfjcebfonaaa", sum := "3c3c668ebe1895b0af0e2743bd42f16771c87cdadc51b6180c1729a61990a5af", checked := Try.checked }
namespace Rows
def none {H : Type} : Left H := { results := [], args := [] }

/-- 'layoutlaw04.PolyMeasures': WHATEVER THE INPUT: true; the input reads as it did. -/
def polyMeasuresSpec : ChangeSpec := { name := "polyMeasures", fn := fun _ => fun
  | [d] => { results := [.lit (.bool true)], args := [d] }
  | _ => none }
def polyMeasuresRow : OpenClaim := { program := "ytmljfjcebfonaaa", sum := "3c3c668ebe1895b0af0e2743bd42f16771c87cdadc51b6180c1729a61990a5af", func := "layout/layoutlaw04.PolyMeasures", spec := "polyMeasures", unfollowed := true, recurses := true, apart := false }
def PolyMeasuresSaid : Prop := polyMeasuresRow.holds Try.pinned (OpenSpec.ofChange polyMeasuresSpec)

/-- ITS FALSE NEIGHBOUR: 'it returns false'. Refute it at one input. -/
def polyMeasuresWrong : ChangeSpec := { name := "polyMeasures", fn := fun _ => fun
  | [d] => { results := [.lit (.bool false)], args := [d] }
  | _ => none }
def PolyMeasuresWrongFalsely : Prop := polyMeasuresRow.holds Try.pinned (OpenSpec.ofChange polyMeasuresWrong)

/-- 'layoutlaw04.PolySimplifies': WHATEVER THE INPUT: true; the input reads as it did. -/
def polySimplifiesSpec : ChangeSpec := { name := "polySimplifies", fn := fun _ => fun
  | [d] => { results := [.lit (.bool true)], args := [d] }
  | _ => none }
def polySimplifiesRow : OpenClaim := { program := "ytmljfjcebfonaaa", sum := "3c3c668ebe1895b0af0e2743bd42f16771c87cdadc51b6180c1729a61990a5af", func := "layout/layoutlaw04.PolySimplifies", spec := "polySimplifies", unfollowed := true, recurses := true, apart := false }
def PolySimplifiesSaid : Prop := polySimplifiesRow.holds Try.pinned (OpenSpec.ofChange polySimplifiesSpec)

/-- ITS FALSE NEIGHBOUR: 'it returns false'. Refute it at one input. -/
def polySimplifiesWrong : ChangeSpec := { name := "polySimplifies", fn := fun _ => fun
  | [d] => { results := [.lit (.bool false)], args := [d] }
  | _ => none }
def PolySimplifiesWrongFalsely : Prop := polySimplifiesRow.holds Try.pinned (OpenSpec.ofChange polySimplifiesWrong)

/-- 'layoutlaw04.PolyTurns': WHATEVER THE INPUT: true; the input reads as it did. -/
def polyTurnsSpec : ChangeSpec := { name := "polyTurns", fn := fun _ => fun
  | [d] => { results := [.lit (.bool true)], args := [d] }
  | _ => none }
def polyTurnsRow : OpenClaim := { program := "ytmljfjcebfonaaa", sum := "3c3c668ebe1895b0af0e2743bd42f16771c87cdadc51b6180c1729a61990a5af", func := "layout/layoutlaw04.PolyTurns", spec := "polyTurns", unfollowed := true, recurses := true, apart := false }
def PolyTurnsSaid : Prop := polyTurnsRow.holds Try.pinned (OpenSpec.ofChange polyTurnsSpec)

/-- ITS FALSE NEIGHBOUR: 'it returns false'. Refute it at one input. -/
def polyTurnsWrong : ChangeSpec := { name := "polyTurns", fn := fun _ => fun
  | [d] => { results := [.lit (.bool false)], args := [d] }
  | _ => none }
def PolyTurnsWrongFalsely : Prop := polyTurnsRow.holds Try.pinned (OpenSpec.ofChange polyTurnsWrong)

/-- 'layoutlaw04.PolyKeeps': WHATEVER THE INPUT: true; the input reads as it did. -/
def polyKeepsSpec : ChangeSpec := { name := "polyKeeps", fn := fun _ => fun
  | [d] => { results := [.lit (.bool true)], args := [d] }
  | _ => none }
def polyKeepsRow : OpenClaim := { program := "ytmljfjcebfonaaa", sum := "3c3c668ebe1895b0af0e2743bd42f16771c87cdadc51b6180c1729a61990a5af", func := "layout/layoutlaw04.PolyKeeps", spec := "polyKeeps", unfollowed := true, recurses := true, apart := false }
def PolyKeepsSaid : Prop := polyKeepsRow.holds Try.pinned (OpenSpec.ofChange polyKeepsSpec)

/-- ITS FALSE NEIGHBOUR: 'it returns false'. Refute it at one input. -/
def polyKeepsWrong : ChangeSpec := { name := "polyKeeps", fn := fun _ => fun
  | [d] => { results := [.lit (.bool false)], args := [d] }
  | _ => none }
def PolyKeepsWrongFalsely : Prop := polyKeepsRow.holds Try.pinned (OpenSpec.ofChange polyKeepsWrong)

/-- 'layoutlaw04.PolyCrosses': WHATEVER THE INPUT: true; the input reads as it did. -/
def polyCrossesSpec : ChangeSpec := { name := "polyCrosses", fn := fun _ => fun
  | [d1, d2] => { results := [.lit (.bool true)], args := [d1, d2] }
  | _ => none }
def polyCrossesRow : OpenClaim := { program := "ytmljfjcebfonaaa", sum := "3c3c668ebe1895b0af0e2743bd42f16771c87cdadc51b6180c1729a61990a5af", func := "layout/layoutlaw04.PolyCrosses", spec := "polyCrosses", unfollowed := true, recurses := true, apart := false }
def PolyCrossesSaid : Prop := polyCrossesRow.holds Try.pinned (OpenSpec.ofChange polyCrossesSpec)

/-- ITS FALSE NEIGHBOUR: 'it returns false'. Refute it at one input. -/
def polyCrossesWrong : ChangeSpec := { name := "polyCrosses", fn := fun _ => fun
  | [d1, d2] => { results := [.lit (.bool false)], args := [d1, d2] }
  | _ => none }
def PolyCrossesWrongFalsely : Prop := polyCrossesRow.holds Try.pinned (OpenSpec.ofChange polyCrossesWrong)

/- THE SECOND FORM. 'bulk': how many values and letters a reading holds, each counted each time it is reached (what is shared counts as often as it is met; a slice's spare places count too). A statement '..UptoSaid' is the law's where the arguments, and the package variables that the reading takes, are together of bulk at most 1048576: NARROWER than '..Said'. Prove '..Said' where nothing that the law and all that it calls make is longer than what came in: it says more and counts as full. Else prove '..UptoSaid'. A law counts once. -/
mutual
def uptoBulk {H : Type} : DataW H → Nat
  | .lit (.string bytes) => bytes.length + 1
  | .lit _ => 1
  | .nil => 1
  | .ptr d => uptoBulk d + 1
  | .slice elems spare => uptoBulkAll elems + uptoBulkAll spare + 1
  | .agg parts => uptoBulkAll parts + 1
  | .iface _ d => uptoBulk d + 1
  | .map entries => uptoBulkEntries entries + 1
  | .held _ => 1
def uptoBulkAll {H : Type} : List (DataW H) → Nat
  | [] => 0
  | d :: r => uptoBulk d + uptoBulkAll r
def uptoBulkEntries {H : Type} : List (Lit × DataW H) → Nat
  | [] => 0
  | x :: r => uptoBulkEntry x + uptoBulkEntries r
def uptoBulkEntry {H : Type} : Lit × DataW H → Nat
  | (.string bytes, d) => bytes.length + uptoBulk d + 1
  | (_, d) => uptoBulk d + 1
 end
def uptoSmall : (H : Type) → List (DataW H) → Bool := fun _ ds => decide (uptoBulkAll ds ≤ 1048576)
def OpenSpec.upto (s : _root_.Go.ChangeSpec) : _root_.Go.OpenSpec := { _root_.Go.OpenSpec.ofChange s with cond := some uptoSmall }

/-- 'layoutlaw04.PolyMeasures', WHERE WHAT IT READS IS OF BULK AT MOST 1048576: true; the input reads as it did. -/
def polyMeasuresUptoRow : OpenClaim := { program := "ytmljfjcebfonaaa", sum := "3c3c668ebe1895b0af0e2743bd42f16771c87cdadc51b6180c1729a61990a5af", func := "layout/layoutlaw04.PolyMeasures", spec := "polyMeasures", unfollowed := true, recurses := true, apart := false, narrowed := true }
def PolyMeasuresUptoSaid : Prop := polyMeasuresUptoRow.holds Try.pinned (OpenSpec.upto polyMeasuresSpec)

/-- 'layoutlaw04.PolySimplifies', WHERE WHAT IT READS IS OF BULK AT MOST 1048576: true; the input reads as it did. -/
def polySimplifiesUptoRow : OpenClaim := { program := "ytmljfjcebfonaaa", sum := "3c3c668ebe1895b0af0e2743bd42f16771c87cdadc51b6180c1729a61990a5af", func := "layout/layoutlaw04.PolySimplifies", spec := "polySimplifies", unfollowed := true, recurses := true, apart := false, narrowed := true }
def PolySimplifiesUptoSaid : Prop := polySimplifiesUptoRow.holds Try.pinned (OpenSpec.upto polySimplifiesSpec)

/-- 'layoutlaw04.PolyTurns', WHERE WHAT IT READS IS OF BULK AT MOST 1048576: true; the input reads as it did. -/
def polyTurnsUptoRow : OpenClaim := { program := "ytmljfjcebfonaaa", sum := "3c3c668ebe1895b0af0e2743bd42f16771c87cdadc51b6180c1729a61990a5af", func := "layout/layoutlaw04.PolyTurns", spec := "polyTurns", unfollowed := true, recurses := true, apart := false, narrowed := true }
def PolyTurnsUptoSaid : Prop := polyTurnsUptoRow.holds Try.pinned (OpenSpec.upto polyTurnsSpec)

/-- 'layoutlaw04.PolyKeeps', WHERE WHAT IT READS IS OF BULK AT MOST 1048576: true; the input reads as it did. -/
def polyKeepsUptoRow : OpenClaim := { program := "ytmljfjcebfonaaa", sum := "3c3c668ebe1895b0af0e2743bd42f16771c87cdadc51b6180c1729a61990a5af", func := "layout/layoutlaw04.PolyKeeps", spec := "polyKeeps", unfollowed := true, recurses := true, apart := false, narrowed := true }
def PolyKeepsUptoSaid : Prop := polyKeepsUptoRow.holds Try.pinned (OpenSpec.upto polyKeepsSpec)

/-- 'layoutlaw04.PolyCrosses', WHERE WHAT IT READS IS OF BULK AT MOST 1048576: true; the input reads as it did. -/
def polyCrossesUptoRow : OpenClaim := { program := "ytmljfjcebfonaaa", sum := "3c3c668ebe1895b0af0e2743bd42f16771c87cdadc51b6180c1729a61990a5af", func := "layout/layoutlaw04.PolyCrosses", spec := "polyCrosses", unfollowed := true, recurses := true, apart := false, narrowed := true }
def PolyCrossesUptoSaid : Prop := polyCrossesUptoRow.holds Try.pinned (OpenSpec.upto polyCrossesSpec)

end Rows
end Go.Proofs.Ytmljfjcebfonaaa
