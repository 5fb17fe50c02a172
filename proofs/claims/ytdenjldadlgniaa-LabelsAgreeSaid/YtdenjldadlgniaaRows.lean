/-
  No cell of these rows narrows 'for every input' (looked for: loops, veiled, ifaces, maps, wideKeys, modest, calm, conditions, laid).
  DERIVED. THE GIVEN ROWS OF THIS SEAT. 5 by the template 'for every input the law returns true; each argument reads behind the call as it read before'; 0 by the template 'total and deterministic' (their statements: YtdenjldadlgniaaTotals.lean).
  GIVEN WITH THE SEED: the statements are not yours to turn. If you find one false, say at which input.
  Laid BY PROGRAM, IN A SANDBOX (cutbox-rows.mjs): the forced cells as the released guide's own fill.sh prints them over the translation 8555eaeac0737b67… (all of the seat's roots in one cut). By AI agents, Wed Nov 11 2026. No macro, syntax, notation, axiom, sorry.
-/
import Derived.Test.YtdenjldadlgniaaChecked
import GoSem.Claim
import GoSem.ClaimJoined
import GoSem.ClaimMapViews
import Derived.JoinedTies
import Derived.KernelRfl
namespace Go.Proofs.Ytdenjldadlgniaa
/- THE CELL 'sum', in the pinned program and in every row, IS THE sha256 OF THE DUMP (.gsa) THAT YtdenjldadlgniaaProg.lean LOADS. Nothing in Lean hashes anything: it is a label: what it is worth is what the hold of that sum in a sandbox is worth. -/
noncomputable def Try.pinned : Pinned := { name := "ytdenjldadlgniaa", sum := "8555eaeac0737b6746ae2d25434c90469fdc4cd4792107c5f69995fc2fb8188c", checked := Try.checked }
namespace Rows
def none {H : Type} : Left H := { results := [], args := [] }

/-- 'layoutlaw50.LabelsChecks': WHATEVER THE INPUT: true; the input reads as it did. -/
def labelsChecksSpec : ChangeSpec := { name := "labelsChecks", fn := fun _ => fun
  | [d1, d2, d3] => { results := [.lit (.bool true)], args := [d1, d2, d3] }
  | _ => none }
def labelsChecksRow : OpenClaim := { program := "ytdenjldadlgniaa", sum := "8555eaeac0737b6746ae2d25434c90469fdc4cd4792107c5f69995fc2fb8188c", func := "layout/layoutlaw50.LabelsChecks", spec := "labelsChecks", unfollowed := true, recurses := true, apart := false }
def LabelsChecksSaid : Prop := labelsChecksRow.holds Try.pinned (OpenSpec.ofChange labelsChecksSpec)

/-- ITS FALSE NEIGHBOUR: 'it returns false'. Refute it at one input. -/
def labelsChecksWrong : ChangeSpec := { name := "labelsChecks", fn := fun _ => fun
  | [d1, d2, d3] => { results := [.lit (.bool false)], args := [d1, d2, d3] }
  | _ => none }
def LabelsChecksWrongFalsely : Prop := labelsChecksRow.holds Try.pinned (OpenSpec.ofChange labelsChecksWrong)

/-- 'layoutlaw50.LabelsPlaces': WHATEVER THE INPUT: true; the input reads as it did. -/
def labelsPlacesSpec : ChangeSpec := { name := "labelsPlaces", fn := fun _ => fun
  | [d1, d2] => { results := [.lit (.bool true)], args := [d1, d2] }
  | _ => none }
def labelsPlacesRow : OpenClaim := { program := "ytdenjldadlgniaa", sum := "8555eaeac0737b6746ae2d25434c90469fdc4cd4792107c5f69995fc2fb8188c", func := "layout/layoutlaw50.LabelsPlaces", spec := "labelsPlaces", unfollowed := true, recurses := true, apart := false }
def LabelsPlacesSaid : Prop := labelsPlacesRow.holds Try.pinned (OpenSpec.ofChange labelsPlacesSpec)

/-- ITS FALSE NEIGHBOUR: 'it returns false'. Refute it at one input. -/
def labelsPlacesWrong : ChangeSpec := { name := "labelsPlaces", fn := fun _ => fun
  | [d1, d2] => { results := [.lit (.bool false)], args := [d1, d2] }
  | _ => none }
def LabelsPlacesWrongFalsely : Prop := labelsPlacesRow.holds Try.pinned (OpenSpec.ofChange labelsPlacesWrong)

/-- 'layoutlaw50.LabelsSlots': WHATEVER THE INPUT: true; the input reads as it did. -/
def labelsSlotsSpec : ChangeSpec := { name := "labelsSlots", fn := fun _ => fun
  | [d1, d2] => { results := [.lit (.bool true)], args := [d1, d2] }
  | _ => none }
def labelsSlotsRow : OpenClaim := { program := "ytdenjldadlgniaa", sum := "8555eaeac0737b6746ae2d25434c90469fdc4cd4792107c5f69995fc2fb8188c", func := "layout/layoutlaw50.LabelsSlots", spec := "labelsSlots", unfollowed := true, recurses := true, apart := false }
def LabelsSlotsSaid : Prop := labelsSlotsRow.holds Try.pinned (OpenSpec.ofChange labelsSlotsSpec)

/-- ITS FALSE NEIGHBOUR: 'it returns false'. Refute it at one input. -/
def labelsSlotsWrong : ChangeSpec := { name := "labelsSlots", fn := fun _ => fun
  | [d1, d2] => { results := [.lit (.bool false)], args := [d1, d2] }
  | _ => none }
def LabelsSlotsWrongFalsely : Prop := labelsSlotsRow.holds Try.pinned (OpenSpec.ofChange labelsSlotsWrong)

/-- 'layoutlaw50.LabelsLeast': WHATEVER THE INPUT: true; the input reads as it did. -/
def labelsLeastSpec : ChangeSpec := { name := "labelsLeast", fn := fun _ => fun
  | [d1, d2, d3] => { results := [.lit (.bool true)], args := [d1, d2, d3] }
  | _ => none }
def labelsLeastRow : OpenClaim := { program := "ytdenjldadlgniaa", sum := "8555eaeac0737b6746ae2d25434c90469fdc4cd4792107c5f69995fc2fb8188c", func := "layout/layoutlaw50.LabelsLeast", spec := "labelsLeast", unfollowed := true, recurses := true, apart := false }
def LabelsLeastSaid : Prop := labelsLeastRow.holds Try.pinned (OpenSpec.ofChange labelsLeastSpec)

/-- ITS FALSE NEIGHBOUR: 'it returns false'. Refute it at one input. -/
def labelsLeastWrong : ChangeSpec := { name := "labelsLeast", fn := fun _ => fun
  | [d1, d2, d3] => { results := [.lit (.bool false)], args := [d1, d2, d3] }
  | _ => none }
def LabelsLeastWrongFalsely : Prop := labelsLeastRow.holds Try.pinned (OpenSpec.ofChange labelsLeastWrong)

/-- 'layoutlaw50.LabelsAgree': WHATEVER THE INPUT: true; the input reads as it did. -/
def labelsAgreeSpec : ChangeSpec := { name := "labelsAgree", fn := fun _ => fun
  | [d1, d2] => { results := [.lit (.bool true)], args := [d1, d2] }
  | _ => none }
def labelsAgreeRow : OpenClaim := { program := "ytdenjldadlgniaa", sum := "8555eaeac0737b6746ae2d25434c90469fdc4cd4792107c5f69995fc2fb8188c", func := "layout/layoutlaw50.LabelsAgree", spec := "labelsAgree", unfollowed := true, recurses := true, apart := false }
def LabelsAgreeSaid : Prop := labelsAgreeRow.holds Try.pinned (OpenSpec.ofChange labelsAgreeSpec)

/-- ITS FALSE NEIGHBOUR: 'it returns false'. Refute it at one input. -/
def labelsAgreeWrong : ChangeSpec := { name := "labelsAgree", fn := fun _ => fun
  | [d1, d2] => { results := [.lit (.bool false)], args := [d1, d2] }
  | _ => none }
def LabelsAgreeWrongFalsely : Prop := labelsAgreeRow.holds Try.pinned (OpenSpec.ofChange labelsAgreeWrong)

/- THE SECOND FORM. 'bulk': how many values and letters a reading holds, each counted each time it is reached (what is shared counts as often as it is met; a slice's spare places count too). A statement '..UptoSaid' is the law's where the arguments, and the package variables that the reading takes, are together of bulk at most 1048576: NARROWER than '..Said'. Prove '..Said' where nothing that the law and all that it calls make is longer than what came in: it says more and counts as full. Else prove '..UptoSaid'. A law counts once. -/
mutual
def uptoBulk {H : Type} : DataW H → Nat
  | .lit (.string bytes) => bytes.length + 1
  | .lit _ => 1
  | .nil => 1
  | .ptr d => uptoBulk d + 1
  | .slice elems spare => uptoBulkAll elems + uptoBulkAll spare + 1
  | .agg parts => uptoBulkAll parts + 1
  | .iface _ d => uptoBulk d + 1
  | .map entries => uptoBulkEntries entries + 1
  | .held _ => 1
def uptoBulkAll {H : Type} : List (DataW H) → Nat
  | [] => 0
  | d :: r => uptoBulk d + uptoBulkAll r
def uptoBulkEntries {H : Type} : List (Lit × DataW H) → Nat
  | [] => 0
  | x :: r => uptoBulkEntry x + uptoBulkEntries r
def uptoBulkEntry {H : Type} : Lit × DataW H → Nat
  | (.string bytes, d) => bytes.length + uptoBulk d + 1
  | (_, d) => uptoBulk d + 1
 end
def uptoSmall : (H : Type) → List (DataW H) → Bool := fun _ ds => decide (uptoBulkAll ds ≤ 1048576)
def OpenSpec.upto (s : _root_.Go.ChangeSpec) : _root_.Go.OpenSpec := { _root_.Go.OpenSpec.ofChange s with cond := some uptoSmall }

/-- 'layoutlaw50.LabelsChecks', WHERE WHAT IT READS IS OF BULK AT MOST 1048576: true; the input reads as it did. -/
def labelsChecksUptoRow : OpenClaim := { program := "ytdenjldadlgniaa", sum := "8555eaeac0737b6746ae2d25434c90469fdc4cd4792107c5f69995fc2fb8188c", func := "layout/layoutlaw50.LabelsChecks", spec := "labelsChecks", unfollowed := true, recurses := true, apart := false, narrowed := true }
def LabelsChecksUptoSaid : Prop := labelsChecksUptoRow.holds Try.pinned (OpenSpec.upto labelsChecksSpec)

/-- 'layoutlaw50.LabelsPlaces', WHERE WHAT IT READS IS OF BULK AT MOST 1048576: true; the input reads as it did. -/
def labelsPlacesUptoRow : OpenClaim := { program := "ytdenjldadlgniaa", sum := "8555eaeac0737b6746ae2d25434c90469fdc4cd4792107c5f69995fc2fb8188c", func := "layout/layoutlaw50.LabelsPlaces", spec := "labelsPlaces", unfollowed := true, recurses := true, apart := false, narrowed := true }
def LabelsPlacesUptoSaid : Prop := labelsPlacesUptoRow.holds Try.pinned (OpenSpec.upto labelsPlacesSpec)

/-- 'layoutlaw50.LabelsSlots', WHERE WHAT IT READS IS OF BULK AT MOST 1048576: true; the input reads as it did. -/
def labelsSlotsUptoRow : OpenClaim := { program := "ytdenjldadlgniaa", sum := "8555eaeac0737b6746ae2d25434c90469fdc4cd4792107c5f69995fc2fb8188c", func := "layout/layoutlaw50.LabelsSlots", spec := "labelsSlots", unfollowed := true, recurses := true, apart := false, narrowed := true }
def LabelsSlotsUptoSaid : Prop := labelsSlotsUptoRow.holds Try.pinned (OpenSpec.upto labelsSlotsSpec)

/-- 'layoutlaw50.LabelsLeast', WHERE WHAT IT READS IS OF BULK AT MOST 1048576: true; the input reads as it did. -/
def labelsLeastUptoRow : OpenClaim := { program := "ytdenjldadlgniaa", sum := "8555eaeac0737b6746ae2d25434c90469fdc4cd4792107c5f69995fc2fb8188c", func := "layout/layoutlaw50.LabelsLeast", spec := "labelsLeast", unfollowed := true, recurses := true, apart := false, narrowed := true }
def LabelsLeastUptoSaid : Prop := labelsLeastUptoRow.holds Try.pinned (OpenSpec.upto labelsLeastSpec)

/-- 'layoutlaw50.LabelsAgree', WHERE WHAT IT READS IS OF BULK AT MOST 1048576: true; the input reads as it did. -/
def labelsAgreeUptoRow : OpenClaim := { program := "ytdenjldadlgniaa", sum := "8555eaeac0737b6746ae2d25434c90469fdc4cd4792107c5f69995fc2fb8188c", func := "layout/layoutlaw50.LabelsAgree", spec := "labelsAgree", unfollowed := true, recurses := true, apart := false, narrowed := true }
def LabelsAgreeUptoSaid : Prop := labelsAgreeUptoRow.holds Try.pinned (OpenSpec.upto labelsAgreeSpec)

end Rows
end Go.Proofs.Ytdenjldadlgniaa
