/-
  NARROWER THAN 'FOR EVERY INPUT', by the rows' own cells (each row's printed sentence says how): RotationFaces: laid · RotationDarts: laid · RotationDeletes: laid · RotationCovers: laid · RotationMirrors: laid.
  DERIVED. THE GIVEN ROWS OF THIS SEAT. 5 by the template 'for every input the law returns true; each argument reads behind the call as it read before'; 0 by the template 'total and deterministic' (their statements: YtcahceceeeaeoaaDoorTotals.lean).
  GIVEN WITH THE SEED: the statements are not yours to turn. If you find one false, say at which input.
  Laid BY PROGRAM, IN A SANDBOX (cutbox-rows.mjs): the forced cells as the released guide's own fill.sh prints them over the translation db5d353b4c28b86e… (all of the seat's roots in one cut). By AI agents, Wed Nov 11 2026. No macro, syntax, notation, axiom, sorry.
-/
import Derived.Test.YtcahceceeeaeoaaDoorChecked
import GoSem.Claim
import GoSem.ClaimJoined
import GoSem.ClaimMapViews
import Derived.JoinedTies
import Derived.KernelRfl
namespace Go.Proofs.YtcahceceeeaeoaaDoor
/- THE CELL 'sum', in the pinned program and in every row, IS THE sha256 OF THE DUMP (.gsa) THAT YtcahceceeeaeoaaDoorProg.lean LOADS. Nothing in Lean hashes anything: it is a label: what it is worth is what the hold of that sum in a sandbox is worth. -/
noncomputable def Tryd.pinned : Pinned := { name := "ytcahceceeeaeoaadoor", sum := "db5d353b4c28b86e016c3831db160bab305856b476753d5b86438603e498969c", checked := Tryd.checked }
namespace Rows
def none {H : Type} : Left H := { results := [], args := [] }

/- WHAT THE LISTED PACKAGE-LEVEL VARIABLES READ AS WHEN THE CALL BEGINS. Each datum BY PROGRAM (the guide's laid-datum.mjs) off the statement by which the dump's own 'gosem.cut.vars' lays the variable. In a bare row this is a premise. The card (YtcahceceeeaeoaaDoorCards.lean) ties it to the program's text. -/
def laid_layout_rotation_limits {H : Type} : DataW H := .agg [.lit (.int .i64 16384), .lit (.int .i64 32768)]

/-- 'layoutlaw29.RotationFaces': WHATEVER THE INPUT: true; the input reads as it did. -/
def rotationFacesSpec : ChangeSpec := { name := "rotationFaces", fn := fun _ => fun
  | [d] => { results := [.lit (.bool true)], args := [d] }
  | _ => none }
def rotationFacesRow : OpenClaim := { program := "ytcahceceeeaeoaadoor", sum := "db5d353b4c28b86e016c3831db160bab305856b476753d5b86438603e498969c", func := "layout/layoutlaw29.RotationFaces", spec := "rotationFaces", named := ["layout/rotation.limits"], apart := false, laid := [("layout/rotation.limits", laid_layout_rotation_limits)] }
def RotationFacesSaid : Prop := rotationFacesRow.holds Tryd.pinned (OpenSpec.ofChange rotationFacesSpec)

/-- ITS FALSE NEIGHBOUR: 'it returns false'. Refute it at one input. -/
def rotationFacesWrong : ChangeSpec := { name := "rotationFaces", fn := fun _ => fun
  | [d] => { results := [.lit (.bool false)], args := [d] }
  | _ => none }
def RotationFacesWrongFalsely : Prop := rotationFacesRow.holds Tryd.pinned (OpenSpec.ofChange rotationFacesWrong)

/-- 'layoutlaw29.RotationDarts': WHATEVER THE INPUT: true; the input reads as it did. -/
def rotationDartsSpec : ChangeSpec := { name := "rotationDarts", fn := fun _ => fun
  | [d1, d2] => { results := [.lit (.bool true)], args := [d1, d2] }
  | _ => none }
def rotationDartsRow : OpenClaim := { program := "ytcahceceeeaeoaadoor", sum := "db5d353b4c28b86e016c3831db160bab305856b476753d5b86438603e498969c", func := "layout/layoutlaw29.RotationDarts", spec := "rotationDarts", named := ["layout/rotation.limits"], apart := false, laid := [("layout/rotation.limits", laid_layout_rotation_limits)] }
def RotationDartsSaid : Prop := rotationDartsRow.holds Tryd.pinned (OpenSpec.ofChange rotationDartsSpec)

/-- ITS FALSE NEIGHBOUR: 'it returns false'. Refute it at one input. -/
def rotationDartsWrong : ChangeSpec := { name := "rotationDarts", fn := fun _ => fun
  | [d1, d2] => { results := [.lit (.bool false)], args := [d1, d2] }
  | _ => none }
def RotationDartsWrongFalsely : Prop := rotationDartsRow.holds Tryd.pinned (OpenSpec.ofChange rotationDartsWrong)

/-- 'layoutlaw29.RotationDeletes': WHATEVER THE INPUT: true; the input reads as it did. -/
def rotationDeletesSpec : ChangeSpec := { name := "rotationDeletes", fn := fun _ => fun
  | [d1, d2] => { results := [.lit (.bool true)], args := [d1, d2] }
  | _ => none }
def rotationDeletesRow : OpenClaim := { program := "ytcahceceeeaeoaadoor", sum := "db5d353b4c28b86e016c3831db160bab305856b476753d5b86438603e498969c", func := "layout/layoutlaw29.RotationDeletes", spec := "rotationDeletes", named := ["layout/rotation.limits"], apart := false, laid := [("layout/rotation.limits", laid_layout_rotation_limits)] }
def RotationDeletesSaid : Prop := rotationDeletesRow.holds Tryd.pinned (OpenSpec.ofChange rotationDeletesSpec)

/-- ITS FALSE NEIGHBOUR: 'it returns false'. Refute it at one input. -/
def rotationDeletesWrong : ChangeSpec := { name := "rotationDeletes", fn := fun _ => fun
  | [d1, d2] => { results := [.lit (.bool false)], args := [d1, d2] }
  | _ => none }
def RotationDeletesWrongFalsely : Prop := rotationDeletesRow.holds Tryd.pinned (OpenSpec.ofChange rotationDeletesWrong)

/-- 'layoutlaw29.RotationCovers': WHATEVER THE INPUT: true; the input reads as it did. -/
def rotationCoversSpec : ChangeSpec := { name := "rotationCovers", fn := fun _ => fun
  | [d] => { results := [.lit (.bool true)], args := [d] }
  | _ => none }
def rotationCoversRow : OpenClaim := { program := "ytcahceceeeaeoaadoor", sum := "db5d353b4c28b86e016c3831db160bab305856b476753d5b86438603e498969c", func := "layout/layoutlaw29.RotationCovers", spec := "rotationCovers", named := ["layout/rotation.limits"], apart := false, laid := [("layout/rotation.limits", laid_layout_rotation_limits)] }
def RotationCoversSaid : Prop := rotationCoversRow.holds Tryd.pinned (OpenSpec.ofChange rotationCoversSpec)

/-- ITS FALSE NEIGHBOUR: 'it returns false'. Refute it at one input. -/
def rotationCoversWrong : ChangeSpec := { name := "rotationCovers", fn := fun _ => fun
  | [d] => { results := [.lit (.bool false)], args := [d] }
  | _ => none }
def RotationCoversWrongFalsely : Prop := rotationCoversRow.holds Tryd.pinned (OpenSpec.ofChange rotationCoversWrong)

/-- 'layoutlaw29.RotationMirrors': WHATEVER THE INPUT: true; the input reads as it did. -/
def rotationMirrorsSpec : ChangeSpec := { name := "rotationMirrors", fn := fun _ => fun
  | [d1, d2] => { results := [.lit (.bool true)], args := [d1, d2] }
  | _ => none }
def rotationMirrorsRow : OpenClaim := { program := "ytcahceceeeaeoaadoor", sum := "db5d353b4c28b86e016c3831db160bab305856b476753d5b86438603e498969c", func := "layout/layoutlaw29.RotationMirrors", spec := "rotationMirrors", unfollowed := true, recurses := true, named := ["layout/rotation.limits"], apart := false, laid := [("layout/rotation.limits", laid_layout_rotation_limits)] }
def RotationMirrorsSaid : Prop := rotationMirrorsRow.holds Tryd.pinned (OpenSpec.ofChange rotationMirrorsSpec)

/-- ITS FALSE NEIGHBOUR: 'it returns false'. Refute it at one input. -/
def rotationMirrorsWrong : ChangeSpec := { name := "rotationMirrors", fn := fun _ => fun
  | [d1, d2] => { results := [.lit (.bool false)], args := [d1, d2] }
  | _ => none }
def RotationMirrorsWrongFalsely : Prop := rotationMirrorsRow.holds Tryd.pinned (OpenSpec.ofChange rotationMirrorsWrong)

/- THE SECOND FORM. 'bulk': how many values and letters a reading holds, each counted each time it is reached (what is shared counts as often as it is met; a slice's spare places count too). A statement '..UptoSaid' is the law's where the arguments, and the package variables that the reading takes, are together of bulk at most 1048576: NARROWER than '..Said'. Prove '..Said' where nothing that the law and all that it calls make is longer than what came in: it says more and counts as full. Else prove '..UptoSaid'. A law counts once. -/
mutual
def uptoBulk {H : Type} : DataW H → Nat
  | .lit (.string bytes) => bytes.length + 1
  | .lit _ => 1
  | .nil => 1
  | .ptr d => uptoBulk d + 1
  | .slice elems spare => uptoBulkAll elems + uptoBulkAll spare + 1
  | .agg parts => uptoBulkAll parts + 1
  | .iface _ d => uptoBulk d + 1
  | .map entries => uptoBulkEntries entries + 1
  | .held _ => 1
def uptoBulkAll {H : Type} : List (DataW H) → Nat
  | [] => 0
  | d :: r => uptoBulk d + uptoBulkAll r
def uptoBulkEntries {H : Type} : List (Lit × DataW H) → Nat
  | [] => 0
  | x :: r => uptoBulkEntry x + uptoBulkEntries r
def uptoBulkEntry {H : Type} : Lit × DataW H → Nat
  | (.string bytes, d) => bytes.length + uptoBulk d + 1
  | (_, d) => uptoBulk d + 1
 end
def uptoSmall : (H : Type) → List (DataW H) → Bool := fun _ ds => decide (uptoBulkAll ds ≤ 1048576)
def OpenSpec.upto (s : _root_.Go.ChangeSpec) : _root_.Go.OpenSpec := { _root_.Go.OpenSpec.ofChange s with cond := some uptoSmall }

/-- 'layoutlaw29.RotationFaces', WHERE WHAT IT READS IS OF BULK AT MOST 1048576: true; the input reads as it did. -/
def rotationFacesUptoRow : OpenClaim := { program := "ytcahceceeeaeoaadoor", sum := "db5d353b4c28b86e016c3831db160bab305856b476753d5b86438603e498969c", func := "layout/layoutlaw29.RotationFaces", spec := "rotationFaces", named := ["layout/rotation.limits"], apart := false, laid := [("layout/rotation.limits", laid_layout_rotation_limits)], narrowed := true }
def RotationFacesUptoSaid : Prop := rotationFacesUptoRow.holds Tryd.pinned (OpenSpec.upto rotationFacesSpec)

/-- 'layoutlaw29.RotationDarts', WHERE WHAT IT READS IS OF BULK AT MOST 1048576: true; the input reads as it did. -/
def rotationDartsUptoRow : OpenClaim := { program := "ytcahceceeeaeoaadoor", sum := "db5d353b4c28b86e016c3831db160bab305856b476753d5b86438603e498969c", func := "layout/layoutlaw29.RotationDarts", spec := "rotationDarts", named := ["layout/rotation.limits"], apart := false, laid := [("layout/rotation.limits", laid_layout_rotation_limits)], narrowed := true }
def RotationDartsUptoSaid : Prop := rotationDartsUptoRow.holds Tryd.pinned (OpenSpec.upto rotationDartsSpec)

/-- 'layoutlaw29.RotationDeletes', WHERE WHAT IT READS IS OF BULK AT MOST 1048576: true; the input reads as it did. -/
def rotationDeletesUptoRow : OpenClaim := { program := "ytcahceceeeaeoaadoor", sum := "db5d353b4c28b86e016c3831db160bab305856b476753d5b86438603e498969c", func := "layout/layoutlaw29.RotationDeletes", spec := "rotationDeletes", named := ["layout/rotation.limits"], apart := false, laid := [("layout/rotation.limits", laid_layout_rotation_limits)], narrowed := true }
def RotationDeletesUptoSaid : Prop := rotationDeletesUptoRow.holds Tryd.pinned (OpenSpec.upto rotationDeletesSpec)

/-- 'layoutlaw29.RotationCovers', WHERE WHAT IT READS IS OF BULK AT MOST 1048576: true; the input reads as it did. -/
def rotationCoversUptoRow : OpenClaim := { program := "ytcahceceeeaeoaadoor", sum := "db5d353b4c28b86e016c3831db160bab305856b476753d5b86438603e498969c", func := "layout/layoutlaw29.RotationCovers", spec := "rotationCovers", named := ["layout/rotation.limits"], apart := false, laid := [("layout/rotation.limits", laid_layout_rotation_limits)], narrowed := true }
def RotationCoversUptoSaid : Prop := rotationCoversUptoRow.holds Tryd.pinned (OpenSpec.upto rotationCoversSpec)

/-- 'layoutlaw29.RotationMirrors', WHERE WHAT IT READS IS OF BULK AT MOST 1048576: true; the input reads as it did. -/
def rotationMirrorsUptoRow : OpenClaim := { program := "ytcahceceeeaeoaadoor", sum := "db5d353b4c28b86e016c3831db160bab305856b476753d5b86438603e498969c", func := "layout/layoutlaw29.RotationMirrors", spec := "rotationMirrors", unfollowed := true, recurses := true, named := ["layout/rotation.limits"], apart := false, laid := [("layout/rotation.limits", laid_layout_rotation_limits)], narrowed := true }
def RotationMirrorsUptoSaid : Prop := rotationMirrorsUptoRow.holds Tryd.pinned (OpenSpec.upto rotationMirrorsSpec)

end Rows
end Go.Proofs.YtcahceceeeaeoaaDoor
