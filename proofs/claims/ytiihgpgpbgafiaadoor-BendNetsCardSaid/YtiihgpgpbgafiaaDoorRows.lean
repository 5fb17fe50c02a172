/-
  NARROWER THAN 'FOR EVERY INPUT', by the rows' own cells (each row's printed sentence says how): BendNets: laid · BendShapes: laid · BendLeast: laid · BendBounds: laid · BendMirrors: laid.
  DERIVED. THE GIVEN ROWS OF THIS SEAT. 5 by the template 'for every input the law returns true; each argument reads behind the call as it read before'; 0 by the template 'total and deterministic' (their statements: YtiihgpgpbgafiaaDoorTotals.lean).
  GIVEN WITH THE SEED: the statements are not yours to turn. If you find one false, say at which input.
  Laid BY PROGRAM, IN A SANDBOX (cutbox-rows.mjs): the forced cells as the released guide's own fill.sh prints them over the translation eb11a385d84689c1… (all of the seat's roots in one cut). By AI agents, Wed Nov 11 2026. No macro, syntax, notation, axiom, sorry.
-/
import Derived.Test.YtiihgpgpbgafiaaDoorChecked
import GoSem.Claim
import GoSem.ClaimJoined
import GoSem.ClaimMapViews
import Derived.JoinedTies
import Derived.KernelRfl
namespace Go.Proofs.YtiihgpgpbgafiaaDoor
/- THE CELL 'sum', in the pinned program and in every row, IS THE sha256 OF THE DUMP (.gsa) THAT YtiihgpgpbgafiaaDoorProg.lean LOADS. Nothing in Lean hashes anything: it is a label: what it is worth is what the hold of that sum in a sandbox is worth. -/
noncomputable def Tryd.pinned : Pinned := { name := "ytiihgpgpbgafiaadoor", sum := "eb11a385d84689c18c7f0c1bda4664948e95a3720cfe6c5e4b649fafae37bc08", checked := Tryd.checked }
namespace Rows
def none {H : Type} : Left H := { results := [], args := [] }

/- WHAT THE LISTED PACKAGE-LEVEL VARIABLES READ AS WHEN THE CALL BEGINS. Each datum BY PROGRAM (the guide's laid-datum.mjs) off the statement by which the dump's own 'gosem.cut.vars' lays the variable. In a bare row this is a premise. The card (YtiihgpgpbgafiaaDoorCards.lean) ties it to the program's text. -/
def laid_layout_rotation_limits {H : Type} : DataW H := .agg [.lit (.int .i64 16384), .lit (.int .i64 32768)]

/-- 'layoutlaw40.BendNets': WHATEVER THE INPUT: true; the input reads as it did. -/
def bendNetsSpec : ChangeSpec := { name := "bendNets", fn := fun _ => fun
  | [d1, d2] => { results := [.lit (.bool true)], args := [d1, d2] }
  | _ => none }
def bendNetsRow : OpenClaim := { program := "ytiihgpgpbgafiaadoor", sum := "eb11a385d84689c18c7f0c1bda4664948e95a3720cfe6c5e4b649fafae37bc08", func := "layout/layoutlaw40.BendNets", spec := "bendNets", inPlace := ["internal/abi.NoEscape", "internal/bytealg.MakeNoZero"], unfollowed := true, recurses := true, named := ["layout/rotation.limits"], apart := false, laid := [("layout/rotation.limits", laid_layout_rotation_limits)] }
def BendNetsSaid : Prop := bendNetsRow.holds Tryd.pinned (OpenSpec.ofChange bendNetsSpec)

/-- ITS FALSE NEIGHBOUR: 'it returns false'. Refute it at one input. -/
def bendNetsWrong : ChangeSpec := { name := "bendNets", fn := fun _ => fun
  | [d1, d2] => { results := [.lit (.bool false)], args := [d1, d2] }
  | _ => none }
def BendNetsWrongFalsely : Prop := bendNetsRow.holds Tryd.pinned (OpenSpec.ofChange bendNetsWrong)

/-- 'layoutlaw40.BendShapes': WHATEVER THE INPUT: true; the input reads as it did. -/
def bendShapesSpec : ChangeSpec := { name := "bendShapes", fn := fun _ => fun
  | [d1, d2, d3] => { results := [.lit (.bool true)], args := [d1, d2, d3] }
  | _ => none }
def bendShapesRow : OpenClaim := { program := "ytiihgpgpbgafiaadoor", sum := "eb11a385d84689c18c7f0c1bda4664948e95a3720cfe6c5e4b649fafae37bc08", func := "layout/layoutlaw40.BendShapes", spec := "bendShapes", inPlace := ["internal/abi.NoEscape", "internal/bytealg.MakeNoZero"], unfollowed := true, recurses := true, named := ["layout/rotation.limits"], apart := false, laid := [("layout/rotation.limits", laid_layout_rotation_limits)] }
def BendShapesSaid : Prop := bendShapesRow.holds Tryd.pinned (OpenSpec.ofChange bendShapesSpec)

/-- ITS FALSE NEIGHBOUR: 'it returns false'. Refute it at one input. -/
def bendShapesWrong : ChangeSpec := { name := "bendShapes", fn := fun _ => fun
  | [d1, d2, d3] => { results := [.lit (.bool false)], args := [d1, d2, d3] }
  | _ => none }
def BendShapesWrongFalsely : Prop := bendShapesRow.holds Tryd.pinned (OpenSpec.ofChange bendShapesWrong)

/-- 'layoutlaw40.BendLeast': WHATEVER THE INPUT: true; the input reads as it did. -/
def bendLeastSpec : ChangeSpec := { name := "bendLeast", fn := fun _ => fun
  | [d1, d2] => { results := [.lit (.bool true)], args := [d1, d2] }
  | _ => none }
def bendLeastRow : OpenClaim := { program := "ytiihgpgpbgafiaadoor", sum := "eb11a385d84689c18c7f0c1bda4664948e95a3720cfe6c5e4b649fafae37bc08", func := "layout/layoutlaw40.BendLeast", spec := "bendLeast", inPlace := ["internal/abi.NoEscape", "internal/bytealg.MakeNoZero"], unfollowed := true, recurses := true, named := ["layout/rotation.limits"], apart := false, laid := [("layout/rotation.limits", laid_layout_rotation_limits)] }
def BendLeastSaid : Prop := bendLeastRow.holds Tryd.pinned (OpenSpec.ofChange bendLeastSpec)

/-- ITS FALSE NEIGHBOUR: 'it returns false'. Refute it at one input. -/
def bendLeastWrong : ChangeSpec := { name := "bendLeast", fn := fun _ => fun
  | [d1, d2] => { results := [.lit (.bool false)], args := [d1, d2] }
  | _ => none }
def BendLeastWrongFalsely : Prop := bendLeastRow.holds Tryd.pinned (OpenSpec.ofChange bendLeastWrong)

/-- 'layoutlaw40.BendBounds': WHATEVER THE INPUT: true; the input reads as it did. -/
def bendBoundsSpec : ChangeSpec := { name := "bendBounds", fn := fun _ => fun
  | [d] => { results := [.lit (.bool true)], args := [d] }
  | _ => none }
def bendBoundsRow : OpenClaim := { program := "ytiihgpgpbgafiaadoor", sum := "eb11a385d84689c18c7f0c1bda4664948e95a3720cfe6c5e4b649fafae37bc08", func := "layout/layoutlaw40.BendBounds", spec := "bendBounds", inPlace := ["internal/abi.NoEscape", "internal/bytealg.MakeNoZero"], unfollowed := true, recurses := true, named := ["layout/rotation.limits"], apart := false, laid := [("layout/rotation.limits", laid_layout_rotation_limits)] }
def BendBoundsSaid : Prop := bendBoundsRow.holds Tryd.pinned (OpenSpec.ofChange bendBoundsSpec)

/-- ITS FALSE NEIGHBOUR: 'it returns false'. Refute it at one input. -/
def bendBoundsWrong : ChangeSpec := { name := "bendBounds", fn := fun _ => fun
  | [d] => { results := [.lit (.bool false)], args := [d] }
  | _ => none }
def BendBoundsWrongFalsely : Prop := bendBoundsRow.holds Tryd.pinned (OpenSpec.ofChange bendBoundsWrong)

/-- 'layoutlaw40.BendMirrors': WHATEVER THE INPUT: true; the input reads as it did. -/
def bendMirrorsSpec : ChangeSpec := { name := "bendMirrors", fn := fun _ => fun
  | [d1, d2, d3] => { results := [.lit (.bool true)], args := [d1, d2, d3] }
  | _ => none }
def bendMirrorsRow : OpenClaim := { program := "ytiihgpgpbgafiaadoor", sum := "eb11a385d84689c18c7f0c1bda4664948e95a3720cfe6c5e4b649fafae37bc08", func := "layout/layoutlaw40.BendMirrors", spec := "bendMirrors", inPlace := ["internal/abi.NoEscape", "internal/bytealg.MakeNoZero"], unfollowed := true, recurses := true, named := ["layout/rotation.limits"], apart := false, laid := [("layout/rotation.limits", laid_layout_rotation_limits)] }
def BendMirrorsSaid : Prop := bendMirrorsRow.holds Tryd.pinned (OpenSpec.ofChange bendMirrorsSpec)

/-- ITS FALSE NEIGHBOUR: 'it returns false'. Refute it at one input. -/
def bendMirrorsWrong : ChangeSpec := { name := "bendMirrors", fn := fun _ => fun
  | [d1, d2, d3] => { results := [.lit (.bool false)], args := [d1, d2, d3] }
  | _ => none }
def BendMirrorsWrongFalsely : Prop := bendMirrorsRow.holds Tryd.pinned (OpenSpec.ofChange bendMirrorsWrong)

/- THE SECOND FORM. 'bulk': how many values and letters a reading holds, each counted each time it is reached (what is shared counts as often as it is met; a slice's spare places count too). A statement '..UptoSaid' is the law's where the arguments, and the package variables that the reading takes, are together of bulk at most 1048576: NARROWER than '..Said'. Prove '..Said' where nothing that the law and all that it calls make is longer than what came in: it says more and counts as full. Else prove '..UptoSaid'. A law counts once. -/
mutual
def uptoBulk {H : Type} : DataW H → Nat
  | .lit (.string bytes) => bytes.length + 1
  | .lit _ => 1
  | .nil => 1
  | .ptr d => uptoBulk d + 1
  | .slice elems spare => uptoBulkAll elems + uptoBulkAll spare + 1
  | .agg parts => uptoBulkAll parts + 1
  | .iface _ d => uptoBulk d + 1
  | .map entries => uptoBulkEntries entries + 1
  | .held _ => 1
def uptoBulkAll {H : Type} : List (DataW H) → Nat
  | [] => 0
  | d :: r => uptoBulk d + uptoBulkAll r
def uptoBulkEntries {H : Type} : List (Lit × DataW H) → Nat
  | [] => 0
  | x :: r => uptoBulkEntry x + uptoBulkEntries r
def uptoBulkEntry {H : Type} : Lit × DataW H → Nat
  | (.string bytes, d) => bytes.length + uptoBulk d + 1
  | (_, d) => uptoBulk d + 1
 end
def uptoSmall : (H : Type) → List (DataW H) → Bool := fun _ ds => decide (uptoBulkAll ds ≤ 1048576)
def OpenSpec.upto (s : _root_.Go.ChangeSpec) : _root_.Go.OpenSpec := { _root_.Go.OpenSpec.ofChange s with cond := some uptoSmall }

/-- 'layoutlaw40.BendNets', WHERE WHAT IT READS IS OF BULK AT MOST 1048576: true; the input reads as it did. -/
def bendNetsUptoRow : OpenClaim := { program := "ytiihgpgpbgafiaadoor", sum := "eb11a385d84689c18c7f0c1bda4664948e95a3720cfe6c5e4b649fafae37bc08", func := "layout/layoutlaw40.BendNets", spec := "bendNets", inPlace := ["internal/abi.NoEscape", "internal/bytealg.MakeNoZero"], unfollowed := true, recurses := true, named := ["layout/rotation.limits"], apart := false, laid := [("layout/rotation.limits", laid_layout_rotation_limits)], narrowed := true }
def BendNetsUptoSaid : Prop := bendNetsUptoRow.holds Tryd.pinned (OpenSpec.upto bendNetsSpec)

/-- 'layoutlaw40.BendShapes', WHERE WHAT IT READS IS OF BULK AT MOST 1048576: true; the input reads as it did. -/
def bendShapesUptoRow : OpenClaim := { program := "ytiihgpgpbgafiaadoor", sum := "eb11a385d84689c18c7f0c1bda4664948e95a3720cfe6c5e4b649fafae37bc08", func := "layout/layoutlaw40.BendShapes", spec := "bendShapes", inPlace := ["internal/abi.NoEscape", "internal/bytealg.MakeNoZero"], unfollowed := true, recurses := true, named := ["layout/rotation.limits"], apart := false, laid := [("layout/rotation.limits", laid_layout_rotation_limits)], narrowed := true }
def BendShapesUptoSaid : Prop := bendShapesUptoRow.holds Tryd.pinned (OpenSpec.upto bendShapesSpec)

/-- 'layoutlaw40.BendLeast', WHERE WHAT IT READS IS OF BULK AT MOST 1048576: true; the input reads as it did. -/
def bendLeastUptoRow : OpenClaim := { program := "ytiihgpgpbgafiaadoor", sum := "eb11a385d84689c18c7f0c1bda4664948e95a3720cfe6c5e4b649fafae37bc08", func := "layout/layoutlaw40.BendLeast", spec := "bendLeast", inPlace := ["internal/abi.NoEscape", "internal/bytealg.MakeNoZero"], unfollowed := true, recurses := true, named := ["layout/rotation.limits"], apart := false, laid := [("layout/rotation.limits", laid_layout_rotation_limits)], narrowed := true }
def BendLeastUptoSaid : Prop := bendLeastUptoRow.holds Tryd.pinned (OpenSpec.upto bendLeastSpec)

/-- 'layoutlaw40.BendBounds', WHERE WHAT IT READS IS OF BULK AT MOST 1048576: true; the input reads as it did. -/
def bendBoundsUptoRow : OpenClaim := { program := "ytiihgpgpbgafiaadoor", sum := "eb11a385d84689c18c7f0c1bda4664948e95a3720cfe6c5e4b649fafae37bc08", func := "layout/layoutlaw40.BendBounds", spec := "bendBounds", inPlace := ["internal/abi.NoEscape", "internal/bytealg.MakeNoZero"], unfollowed := true, recurses := true, named := ["layout/rotation.limits"], apart := false, laid := [("layout/rotation.limits", laid_layout_rotation_limits)], narrowed := true }
def BendBoundsUptoSaid : Prop := bendBoundsUptoRow.holds Tryd.pinned (OpenSpec.upto bendBoundsSpec)

/-- 'layoutlaw40.BendMirrors', WHERE WHAT IT READS IS OF BULK AT MOST 1048576: true; the input reads as it did. -/
def bendMirrorsUptoRow : OpenClaim := { program := "ytiihgpgpbgafiaadoor", sum := "eb11a385d84689c18c7f0c1bda4664948e95a3720cfe6c5e4b649fafae37bc08", func := "layout/layoutlaw40.BendMirrors", spec := "bendMirrors", inPlace := ["internal/abi.NoEscape", "internal/bytealg.MakeNoZero"], unfollowed := true, recurses := true, named := ["layout/rotation.limits"], apart := false, laid := [("layout/rotation.limits", laid_layout_rotation_limits)], narrowed := true }
def BendMirrorsUptoSaid : Prop := bendMirrorsUptoRow.holds Tryd.pinned (OpenSpec.upto bendMirrorsSpec)

end Rows
end Go.Proofs.YtiihgpgpbgafiaaDoor
