/-
  NARROWER THAN 'FOR EVERY INPUT', by the rows' own cells (each row's printed sentence says how): RealizerBuilds: laid · RealizerChecks: laid · RealizerDraws: laid · RealizerTrees: laid · RealizerPlane: laid.
  DERIVED. THE GIVEN ROWS OF THIS SEAT. 5 by the template 'for every input the law returns true; each argument reads behind the call as it read before'; 0 by the template 'total and deterministic' (their statements: YtlealdicoceekaaDoorTotals.lean).
  GIVEN WITH THE SEED: the statements are not yours to turn. If you find one false, say at which input.
  Laid BY PROGRAM, IN A SANDBOX (cutbox-rows.mjs): the forced cells as the released guide's own fill.sh prints them over the translation c282fe58e6d312c7… (all of the seat's roots in one cut). By AI agents, Wed Nov 11 2026. No macro, syntax, notation, axiom, sorry.
-/
import Derived.Test.YtlealdicoceekaaDoorChecked
import GoSem.Claim
import GoSem.ClaimJoined
import GoSem.ClaimMapViews
import Derived.JoinedTies
import Derived.KernelRfl
namespace Go.Proofs.YtlealdicoceekaaDoor
/- THE CELL 'sum', in the pinned program and in every row, IS THE sha256 OF THE DUMP (.gsa) THAT YtlealdicoceekaaDoorProg.lean LOADS. Nothing in Lean hashes anything: it is a label: what it is worth is what the hold of that sum in a sandbox is worth. -/
noncomputable def Tryd.pinned : Pinned := { name := "ytlealdicoceekaadoor", sum := "c282fe58e6d312c7fad18a625200ae31a7ef6f3d82183589c85db5aebaab511e", checked := Tryd.checked }
namespace Rows
def none {H : Type} : Left H := { results := [], args := [] }

/- WHAT THE LISTED PACKAGE-LEVEL VARIABLES READ AS WHEN THE CALL BEGINS. Each datum BY PROGRAM (the guide's laid-datum.mjs) off the statement by which the dump's own 'gosem.cut.vars' lays the variable. In a bare row this is a premise. The card (YtlealdicoceekaaDoorCards.lean) ties it to the program's text. -/
def laid_layout_rotation_limits {H : Type} : DataW H := .agg [.lit (.int .i64 16384), .lit (.int .i64 32768)]

/-- 'layoutlaw38.RealizerBuilds': WHATEVER THE INPUT: true; the input reads as it did. -/
def realizerBuildsSpec : ChangeSpec := { name := "realizerBuilds", fn := fun _ => fun
  | [d1, d2] => { results := [.lit (.bool true)], args := [d1, d2] }
  | _ => none }
def realizerBuildsRow : OpenClaim := { program := "ytlealdicoceekaadoor", sum := "c282fe58e6d312c7fad18a625200ae31a7ef6f3d82183589c85db5aebaab511e", func := "layout/layoutlaw38.RealizerBuilds", spec := "realizerBuilds", unfollowed := true, recurses := true, named := ["layout/rotation.limits"], plainKeys := false, apart := false, laid := [("layout/rotation.limits", laid_layout_rotation_limits)] }
def RealizerBuildsSaid : Prop := realizerBuildsRow.holds Tryd.pinned (OpenSpec.ofChange realizerBuildsSpec)

/-- ITS FALSE NEIGHBOUR: 'it returns false'. Refute it at one input. -/
def realizerBuildsWrong : ChangeSpec := { name := "realizerBuilds", fn := fun _ => fun
  | [d1, d2] => { results := [.lit (.bool false)], args := [d1, d2] }
  | _ => none }
def RealizerBuildsWrongFalsely : Prop := realizerBuildsRow.holds Tryd.pinned (OpenSpec.ofChange realizerBuildsWrong)

/-- 'layoutlaw38.RealizerChecks': WHATEVER THE INPUT: true; the input reads as it did. -/
def realizerChecksSpec : ChangeSpec := { name := "realizerChecks", fn := fun _ => fun
  | [d1, d2, d3] => { results := [.lit (.bool true)], args := [d1, d2, d3] }
  | _ => none }
def realizerChecksRow : OpenClaim := { program := "ytlealdicoceekaadoor", sum := "c282fe58e6d312c7fad18a625200ae31a7ef6f3d82183589c85db5aebaab511e", func := "layout/layoutlaw38.RealizerChecks", spec := "realizerChecks", unfollowed := true, recurses := true, named := ["layout/rotation.limits"], plainKeys := false, apart := false, laid := [("layout/rotation.limits", laid_layout_rotation_limits)] }
def RealizerChecksSaid : Prop := realizerChecksRow.holds Tryd.pinned (OpenSpec.ofChange realizerChecksSpec)

/-- ITS FALSE NEIGHBOUR: 'it returns false'. Refute it at one input. -/
def realizerChecksWrong : ChangeSpec := { name := "realizerChecks", fn := fun _ => fun
  | [d1, d2, d3] => { results := [.lit (.bool false)], args := [d1, d2, d3] }
  | _ => none }
def RealizerChecksWrongFalsely : Prop := realizerChecksRow.holds Tryd.pinned (OpenSpec.ofChange realizerChecksWrong)

/-- 'layoutlaw38.RealizerDraws': WHATEVER THE INPUT: true; the input reads as it did. -/
def realizerDrawsSpec : ChangeSpec := { name := "realizerDraws", fn := fun _ => fun
  | [d1, d2] => { results := [.lit (.bool true)], args := [d1, d2] }
  | _ => none }
def realizerDrawsRow : OpenClaim := { program := "ytlealdicoceekaadoor", sum := "c282fe58e6d312c7fad18a625200ae31a7ef6f3d82183589c85db5aebaab511e", func := "layout/layoutlaw38.RealizerDraws", spec := "realizerDraws", unfollowed := true, recurses := true, named := ["layout/rotation.limits"], plainKeys := false, apart := false, laid := [("layout/rotation.limits", laid_layout_rotation_limits)] }
def RealizerDrawsSaid : Prop := realizerDrawsRow.holds Tryd.pinned (OpenSpec.ofChange realizerDrawsSpec)

/-- ITS FALSE NEIGHBOUR: 'it returns false'. Refute it at one input. -/
def realizerDrawsWrong : ChangeSpec := { name := "realizerDraws", fn := fun _ => fun
  | [d1, d2] => { results := [.lit (.bool false)], args := [d1, d2] }
  | _ => none }
def RealizerDrawsWrongFalsely : Prop := realizerDrawsRow.holds Tryd.pinned (OpenSpec.ofChange realizerDrawsWrong)

/-- 'layoutlaw38.RealizerTrees': WHATEVER THE INPUT: true; the input reads as it did. -/
def realizerTreesSpec : ChangeSpec := { name := "realizerTrees", fn := fun _ => fun
  | [d] => { results := [.lit (.bool true)], args := [d] }
  | _ => none }
def realizerTreesRow : OpenClaim := { program := "ytlealdicoceekaadoor", sum := "c282fe58e6d312c7fad18a625200ae31a7ef6f3d82183589c85db5aebaab511e", func := "layout/layoutlaw38.RealizerTrees", spec := "realizerTrees", unfollowed := true, recurses := true, named := ["layout/rotation.limits"], plainKeys := false, apart := false, laid := [("layout/rotation.limits", laid_layout_rotation_limits)] }
def RealizerTreesSaid : Prop := realizerTreesRow.holds Tryd.pinned (OpenSpec.ofChange realizerTreesSpec)

/-- ITS FALSE NEIGHBOUR: 'it returns false'. Refute it at one input. -/
def realizerTreesWrong : ChangeSpec := { name := "realizerTrees", fn := fun _ => fun
  | [d] => { results := [.lit (.bool false)], args := [d] }
  | _ => none }
def RealizerTreesWrongFalsely : Prop := realizerTreesRow.holds Tryd.pinned (OpenSpec.ofChange realizerTreesWrong)

/-- 'layoutlaw38.RealizerPlane': WHATEVER THE INPUT: true; the input reads as it did. -/
def realizerPlaneSpec : ChangeSpec := { name := "realizerPlane", fn := fun _ => fun
  | [d] => { results := [.lit (.bool true)], args := [d] }
  | _ => none }
def realizerPlaneRow : OpenClaim := { program := "ytlealdicoceekaadoor", sum := "c282fe58e6d312c7fad18a625200ae31a7ef6f3d82183589c85db5aebaab511e", func := "layout/layoutlaw38.RealizerPlane", spec := "realizerPlane", unfollowed := true, recurses := true, named := ["layout/rotation.limits"], plainKeys := false, apart := false, laid := [("layout/rotation.limits", laid_layout_rotation_limits)] }
def RealizerPlaneSaid : Prop := realizerPlaneRow.holds Tryd.pinned (OpenSpec.ofChange realizerPlaneSpec)

/-- ITS FALSE NEIGHBOUR: 'it returns false'. Refute it at one input. -/
def realizerPlaneWrong : ChangeSpec := { name := "realizerPlane", fn := fun _ => fun
  | [d] => { results := [.lit (.bool false)], args := [d] }
  | _ => none }
def RealizerPlaneWrongFalsely : Prop := realizerPlaneRow.holds Tryd.pinned (OpenSpec.ofChange realizerPlaneWrong)

/- THE SECOND FORM. 'bulk': how many values and letters a reading holds, each counted each time it is reached (what is shared counts as often as it is met; a slice's spare places count too). A statement '..UptoSaid' is the law's where the arguments, and the package variables that the reading takes, are together of bulk at most 1048576: NARROWER than '..Said'. Prove '..Said' where nothing that the law and all that it calls make is longer than what came in: it says more and counts as full. Else prove '..UptoSaid'. A law counts once. -/
mutual
def uptoBulk {H : Type} : DataW H → Nat
  | .lit (.string bytes) => bytes.length + 1
  | .lit _ => 1
  | .nil => 1
  | .ptr d => uptoBulk d + 1
  | .slice elems spare => uptoBulkAll elems + uptoBulkAll spare + 1
  | .agg parts => uptoBulkAll parts + 1
  | .iface _ d => uptoBulk d + 1
  | .map entries => uptoBulkEntries entries + 1
  | .held _ => 1
def uptoBulkAll {H : Type} : List (DataW H) → Nat
  | [] => 0
  | d :: r => uptoBulk d + uptoBulkAll r
def uptoBulkEntries {H : Type} : List (Lit × DataW H) → Nat
  | [] => 0
  | x :: r => uptoBulkEntry x + uptoBulkEntries r
def uptoBulkEntry {H : Type} : Lit × DataW H → Nat
  | (.string bytes, d) => bytes.length + uptoBulk d + 1
  | (_, d) => uptoBulk d + 1
 end
def uptoSmall : (H : Type) → List (DataW H) → Bool := fun _ ds => decide (uptoBulkAll ds ≤ 1048576)
def OpenSpec.upto (s : _root_.Go.ChangeSpec) : _root_.Go.OpenSpec := { _root_.Go.OpenSpec.ofChange s with cond := some uptoSmall }

/-- 'layoutlaw38.RealizerBuilds', WHERE WHAT IT READS IS OF BULK AT MOST 1048576: true; the input reads as it did. -/
def realizerBuildsUptoRow : OpenClaim := { program := "ytlealdicoceekaadoor", sum := "c282fe58e6d312c7fad18a625200ae31a7ef6f3d82183589c85db5aebaab511e", func := "layout/layoutlaw38.RealizerBuilds", spec := "realizerBuilds", unfollowed := true, recurses := true, named := ["layout/rotation.limits"], plainKeys := false, apart := false, laid := [("layout/rotation.limits", laid_layout_rotation_limits)], narrowed := true }
def RealizerBuildsUptoSaid : Prop := realizerBuildsUptoRow.holds Tryd.pinned (OpenSpec.upto realizerBuildsSpec)

/-- 'layoutlaw38.RealizerChecks', WHERE WHAT IT READS IS OF BULK AT MOST 1048576: true; the input reads as it did. -/
def realizerChecksUptoRow : OpenClaim := { program := "ytlealdicoceekaadoor", sum := "c282fe58e6d312c7fad18a625200ae31a7ef6f3d82183589c85db5aebaab511e", func := "layout/layoutlaw38.RealizerChecks", spec := "realizerChecks", unfollowed := true, recurses := true, named := ["layout/rotation.limits"], plainKeys := false, apart := false, laid := [("layout/rotation.limits", laid_layout_rotation_limits)], narrowed := true }
def RealizerChecksUptoSaid : Prop := realizerChecksUptoRow.holds Tryd.pinned (OpenSpec.upto realizerChecksSpec)

/-- 'layoutlaw38.RealizerDraws', WHERE WHAT IT READS IS OF BULK AT MOST 1048576: true; the input reads as it did. -/
def realizerDrawsUptoRow : OpenClaim := { program := "ytlealdicoceekaadoor", sum := "c282fe58e6d312c7fad18a625200ae31a7ef6f3d82183589c85db5aebaab511e", func := "layout/layoutlaw38.RealizerDraws", spec := "realizerDraws", unfollowed := true, recurses := true, named := ["layout/rotation.limits"], plainKeys := false, apart := false, laid := [("layout/rotation.limits", laid_layout_rotation_limits)], narrowed := true }
def RealizerDrawsUptoSaid : Prop := realizerDrawsUptoRow.holds Tryd.pinned (OpenSpec.upto realizerDrawsSpec)

/-- 'layoutlaw38.RealizerTrees', WHERE WHAT IT READS IS OF BULK AT MOST 1048576: true; the input reads as it did. -/
def realizerTreesUptoRow : OpenClaim := { program := "ytlealdicoceekaadoor", sum := "c282fe58e6d312c7fad18a625200ae31a7ef6f3d82183589c85db5aebaab511e", func := "layout/layoutlaw38.RealizerTrees", spec := "realizerTrees", unfollowed := true, recurses := true, named := ["layout/rotation.limits"], plainKeys := false, apart := false, laid := [("layout/rotation.limits", laid_layout_rotation_limits)], narrowed := true }
def RealizerTreesUptoSaid : Prop := realizerTreesUptoRow.holds Tryd.pinned (OpenSpec.upto realizerTreesSpec)

/-- 'layoutlaw38.RealizerPlane', WHERE WHAT IT READS IS OF BULK AT MOST 1048576: true; the input reads as it did. -/
def realizerPlaneUptoRow : OpenClaim := { program := "ytlealdicoceekaadoor", sum := "c282fe58e6d312c7fad18a625200ae31a7ef6f3d82183589c85db5aebaab511e", func := "layout/layoutlaw38.RealizerPlane", spec := "realizerPlane", unfollowed := true, recurses := true, named := ["layout/rotation.limits"], plainKeys := false, apart := false, laid := [("layout/rotation.limits", laid_layout_rotation_limits)], narrowed := true }
def RealizerPlaneUptoSaid : Prop := realizerPlaneUptoRow.holds Tryd.pinned (OpenSpec.upto realizerPlaneSpec)

end Rows
end Go.Proofs.YtlealdicoceekaaDoor
