/-
  NARROWER THAN 'FOR EVERY INPUT', by the rows' own cells (each row's printed sentence says how): CanonChecks: laid · CanonOrders: laid · CanonContours: laid · CanonCounts: laid.
  DERIVED. THE GIVEN ROWS OF THIS SEAT. 4 by the template 'for every input the law returns true; each argument reads behind the call as it read before'; 0 by the template 'total and deterministic' (their statements: YtdacnkjmimhcaaaDoorTotals.lean).
  GIVEN WITH THE SEED: the statements are not yours to turn. If you find one false, say at which input.
  Laid BY PROGRAM, IN A SANDBOX (cutbox-rows.mjs): the forced cells as the released guide's own fill.sh prints them over the translation dc32447c9148432a… (all of the seat's roots in one cut). By AI agents, Wed Nov 11 2026. No macro, syntax, notation, axiom, sorry.
-/
import Derived.Test.YtdacnkjmimhcaaaDoorChecked
import GoSem.Claim
import GoSem.ClaimJoined
import GoSem.ClaimMapViews
import Derived.JoinedTies
import Derived.KernelRfl
namespace Go.Proofs.YtdacnkjmimhcaaaDoor
/- THE CELL 'sum', in the pinned program and in every row, IS THE sha256 OF THE DUMP (.gsa) THAT YtdacnkjmimhcaaaDoorProg.lean LOADS. Nothing in Lean hashes anything: it is a label: what it is worth is what the hold of that sum in a sandbox is worth. -/
noncomputable def Tryd.pinned : Pinned := { name := "ytdacnkjmimhcaaadoor", sum := "dc32447c9148432ac77bb6112ff81ecde837bb1b16388cb95fcf5c6290f8080a", checked := Tryd.checked }
namespace Rows
def none {H : Type} : Left H := { results := [], args := [] }

/- WHAT THE LISTED PACKAGE-LEVEL VARIABLES READ AS WHEN THE CALL BEGINS. Each datum BY PROGRAM (the guide's laid-datum.mjs) off the statement by which the dump's own 'gosem.cut.vars' lays the variable. In a bare row this is a premise. The card (YtdacnkjmimhcaaaDoorCards.lean) ties it to the program's text. -/
def laid_layout_rotation_limits {H : Type} : DataW H := .agg [.lit (.int .i64 16384), .lit (.int .i64 32768)]

/-- 'layoutlaw36.CanonChecks': WHATEVER THE INPUT: true; the input reads as it did. -/
def canonChecksSpec : ChangeSpec := { name := "canonChecks", fn := fun _ => fun
  | [d1, d2, d3] => { results := [.lit (.bool true)], args := [d1, d2, d3] }
  | _ => none }
def canonChecksRow : OpenClaim := { program := "ytdacnkjmimhcaaadoor", sum := "dc32447c9148432ac77bb6112ff81ecde837bb1b16388cb95fcf5c6290f8080a", func := "layout/layoutlaw36.CanonChecks", spec := "canonChecks", named := ["layout/rotation.limits"], plainKeys := false, apart := false, laid := [("layout/rotation.limits", laid_layout_rotation_limits)] }
def CanonChecksSaid : Prop := canonChecksRow.holds Tryd.pinned (OpenSpec.ofChange canonChecksSpec)

/-- ITS FALSE NEIGHBOUR: 'it returns false'. Refute it at one input. -/
def canonChecksWrong : ChangeSpec := { name := "canonChecks", fn := fun _ => fun
  | [d1, d2, d3] => { results := [.lit (.bool false)], args := [d1, d2, d3] }
  | _ => none }
def CanonChecksWrongFalsely : Prop := canonChecksRow.holds Tryd.pinned (OpenSpec.ofChange canonChecksWrong)

/-- 'layoutlaw36.CanonOrders': WHATEVER THE INPUT: true; the input reads as it did. -/
def canonOrdersSpec : ChangeSpec := { name := "canonOrders", fn := fun _ => fun
  | [d] => { results := [.lit (.bool true)], args := [d] }
  | _ => none }
def canonOrdersRow : OpenClaim := { program := "ytdacnkjmimhcaaadoor", sum := "dc32447c9148432ac77bb6112ff81ecde837bb1b16388cb95fcf5c6290f8080a", func := "layout/layoutlaw36.CanonOrders", spec := "canonOrders", named := ["layout/rotation.limits"], plainKeys := false, apart := false, laid := [("layout/rotation.limits", laid_layout_rotation_limits)] }
def CanonOrdersSaid : Prop := canonOrdersRow.holds Tryd.pinned (OpenSpec.ofChange canonOrdersSpec)

/-- ITS FALSE NEIGHBOUR: 'it returns false'. Refute it at one input. -/
def canonOrdersWrong : ChangeSpec := { name := "canonOrders", fn := fun _ => fun
  | [d] => { results := [.lit (.bool false)], args := [d] }
  | _ => none }
def CanonOrdersWrongFalsely : Prop := canonOrdersRow.holds Tryd.pinned (OpenSpec.ofChange canonOrdersWrong)

/-- 'layoutlaw36.CanonContours': WHATEVER THE INPUT: true; the input reads as it did. -/
def canonContoursSpec : ChangeSpec := { name := "canonContours", fn := fun _ => fun
  | [d1, d2] => { results := [.lit (.bool true)], args := [d1, d2] }
  | _ => none }
def canonContoursRow : OpenClaim := { program := "ytdacnkjmimhcaaadoor", sum := "dc32447c9148432ac77bb6112ff81ecde837bb1b16388cb95fcf5c6290f8080a", func := "layout/layoutlaw36.CanonContours", spec := "canonContours", named := ["layout/rotation.limits"], plainKeys := false, apart := false, laid := [("layout/rotation.limits", laid_layout_rotation_limits)] }
def CanonContoursSaid : Prop := canonContoursRow.holds Tryd.pinned (OpenSpec.ofChange canonContoursSpec)

/-- ITS FALSE NEIGHBOUR: 'it returns false'. Refute it at one input. -/
def canonContoursWrong : ChangeSpec := { name := "canonContours", fn := fun _ => fun
  | [d1, d2] => { results := [.lit (.bool false)], args := [d1, d2] }
  | _ => none }
def CanonContoursWrongFalsely : Prop := canonContoursRow.holds Tryd.pinned (OpenSpec.ofChange canonContoursWrong)

/-- 'layoutlaw36.CanonCounts': WHATEVER THE INPUT: true; the input reads as it did. -/
def canonCountsSpec : ChangeSpec := { name := "canonCounts", fn := fun _ => fun
  | [d] => { results := [.lit (.bool true)], args := [d] }
  | _ => none }
def canonCountsRow : OpenClaim := { program := "ytdacnkjmimhcaaadoor", sum := "dc32447c9148432ac77bb6112ff81ecde837bb1b16388cb95fcf5c6290f8080a", func := "layout/layoutlaw36.CanonCounts", spec := "canonCounts", named := ["layout/rotation.limits"], plainKeys := false, apart := false, laid := [("layout/rotation.limits", laid_layout_rotation_limits)] }
def CanonCountsSaid : Prop := canonCountsRow.holds Tryd.pinned (OpenSpec.ofChange canonCountsSpec)

/-- ITS FALSE NEIGHBOUR: 'it returns false'. Refute it at one input. -/
def canonCountsWrong : ChangeSpec := { name := "canonCounts", fn := fun _ => fun
  | [d] => { results := [.lit (.bool false)], args := [d] }
  | _ => none }
def CanonCountsWrongFalsely : Prop := canonCountsRow.holds Tryd.pinned (OpenSpec.ofChange canonCountsWrong)

/- THE SECOND FORM. 'bulk': how many values and letters a reading holds, each counted each time it is reached (what is shared counts as often as it is met; a slice's spare places count too). A statement '..UptoSaid' is the law's where the arguments, and the package variables that the reading takes, are together of bulk at most 1048576: NARROWER than '..Said'. Prove '..Said' where nothing that the law and all that it calls make is longer than what came in: it says more and counts as full. Else prove '..UptoSaid'. A law counts once. -/
mutual
def uptoBulk {H : Type} : DataW H → Nat
  | .lit (.string bytes) => bytes.length + 1
  | .lit _ => 1
  | .nil => 1
  | .ptr d => uptoBulk d + 1
  | .slice elems spare => uptoBulkAll elems + uptoBulkAll spare + 1
  | .agg parts => uptoBulkAll parts + 1
  | .iface _ d => uptoBulk d + 1
  | .map entries => uptoBulkEntries entries + 1
  | .held _ => 1
def uptoBulkAll {H : Type} : List (DataW H) → Nat
  | [] => 0
  | d :: r => uptoBulk d + uptoBulkAll r
def uptoBulkEntries {H : Type} : List (Lit × DataW H) → Nat
  | [] => 0
  | x :: r => uptoBulkEntry x + uptoBulkEntries r
def uptoBulkEntry {H : Type} : Lit × DataW H → Nat
  | (.string bytes, d) => bytes.length + uptoBulk d + 1
  | (_, d) => uptoBulk d + 1
 end
def uptoSmall : (H : Type) → List (DataW H) → Bool := fun _ ds => decide (uptoBulkAll ds ≤ 1048576)
def OpenSpec.upto (s : _root_.Go.ChangeSpec) : _root_.Go.OpenSpec := { _root_.Go.OpenSpec.ofChange s with cond := some uptoSmall }

/-- 'layoutlaw36.CanonChecks', WHERE WHAT IT READS IS OF BULK AT MOST 1048576: true; the input reads as it did. -/
def canonChecksUptoRow : OpenClaim := { program := "ytdacnkjmimhcaaadoor", sum := "dc32447c9148432ac77bb6112ff81ecde837bb1b16388cb95fcf5c6290f8080a", func := "layout/layoutlaw36.CanonChecks", spec := "canonChecks", named := ["layout/rotation.limits"], plainKeys := false, apart := false, laid := [("layout/rotation.limits", laid_layout_rotation_limits)], narrowed := true }
def CanonChecksUptoSaid : Prop := canonChecksUptoRow.holds Tryd.pinned (OpenSpec.upto canonChecksSpec)

/-- 'layoutlaw36.CanonOrders', WHERE WHAT IT READS IS OF BULK AT MOST 1048576: true; the input reads as it did. -/
def canonOrdersUptoRow : OpenClaim := { program := "ytdacnkjmimhcaaadoor", sum := "dc32447c9148432ac77bb6112ff81ecde837bb1b16388cb95fcf5c6290f8080a", func := "layout/layoutlaw36.CanonOrders", spec := "canonOrders", named := ["layout/rotation.limits"], plainKeys := false, apart := false, laid := [("layout/rotation.limits", laid_layout_rotation_limits)], narrowed := true }
def CanonOrdersUptoSaid : Prop := canonOrdersUptoRow.holds Tryd.pinned (OpenSpec.upto canonOrdersSpec)

/-- 'layoutlaw36.CanonContours', WHERE WHAT IT READS IS OF BULK AT MOST 1048576: true; the input reads as it did. -/
def canonContoursUptoRow : OpenClaim := { program := "ytdacnkjmimhcaaadoor", sum := "dc32447c9148432ac77bb6112ff81ecde837bb1b16388cb95fcf5c6290f8080a", func := "layout/layoutlaw36.CanonContours", spec := "canonContours", named := ["layout/rotation.limits"], plainKeys := false, apart := false, laid := [("layout/rotation.limits", laid_layout_rotation_limits)], narrowed := true }
def CanonContoursUptoSaid : Prop := canonContoursUptoRow.holds Tryd.pinned (OpenSpec.upto canonContoursSpec)

/-- 'layoutlaw36.CanonCounts', WHERE WHAT IT READS IS OF BULK AT MOST 1048576: true; the input reads as it did. -/
def canonCountsUptoRow : OpenClaim := { program := "ytdacnkjmimhcaaadoor", sum := "dc32447c9148432ac77bb6112ff81ecde837bb1b16388cb95fcf5c6290f8080a", func := "layout/layoutlaw36.CanonCounts", spec := "canonCounts", named := ["layout/rotation.limits"], plainKeys := false, apart := false, laid := [("layout/rotation.limits", laid_layout_rotation_limits)], narrowed := true }
def CanonCountsUptoSaid : Prop := canonCountsUptoRow.holds Tryd.pinned (OpenSpec.upto canonCountsSpec)

end Rows
end Go.Proofs.YtdacnkjmimhcaaaDoor
