/-
  No cell of these rows narrows 'for every input' (looked for: loops, veiled, ifaces, maps, wideKeys, modest, calm, conditions, laid).
  DERIVED. THE GIVEN ROWS OF THIS SEAT. 6 by the template 'for every input the law returns true; each argument reads behind the call as it read before'; 0 by the template 'total and deterministic' (their statements: YtomkamohcdcmhaaTotals.lean).
  GIVEN WITH THE SEED: the statements are not yours to turn. If you find one false, say at which input.
  Laid BY PROGRAM, IN A SANDBOX (cutbox-rows.mjs): the forced cells as the released guide's own fill.sh prints them over the translation 54c7e7085287024a… (all of the seat's roots in one cut). By AI agents, Wed Nov 11 2026. No macro, syntax, notation, axiom, sorry.
-/
import Derived.Test.YtomkamohcdcmhaaChecked
import GoSem.Claim
import GoSem.ClaimJoined
import GoSem.ClaimMapViews
import Derived.JoinedTies
import Derived.KernelRfl
namespace Go.Proofs.Ytomkamohcdcmhaa
/- THE CELL 'sum', in the pinned program and in every row, IS THE sha256 OF THE DUMP (.gsa) THAT YtomkamohcdcmhaaProg.lean LOADS. Nothing in Lean hashes anything: it is a label: what it is worth is what the hold of that sum in a sandbox is worth. -/
noncomputable def Try.pinned : Pinned := { name := "ytomkamohcdcmhaa", sum := "54c7e7085287024aab615275cf3ea7c8ddd9277d8df974389cac9e5def7f2689", checked := Try.checked }
namespace Rows
def none {H : Type} : Left H := { results := [], args := [] }

/-- 'layoutlaw02.GeomPoints': WHATEVER THE INPUT: true; the input reads as it did. -/
def geomPointsSpec : ChangeSpec := { name := "geomPoints", fn := fun _ => fun
  | [d1, d2, d3] => { results := [.lit (.bool true)], args := [d1, d2, d3] }
  | _ => none }
def geomPointsRow : OpenClaim := { program := "ytomkamohcdcmhaa", sum := "54c7e7085287024aab615275cf3ea7c8ddd9277d8df974389cac9e5def7f2689", func := "layout/layoutlaw02.GeomPoints", spec := "geomPoints", unfollowed := true, recurses := true, apart := false }
def GeomPointsSaid : Prop := geomPointsRow.holds Try.pinned (OpenSpec.ofChange geomPointsSpec)

/-- ITS FALSE NEIGHBOUR: 'it returns false'. Refute it at one input. -/
def geomPointsWrong : ChangeSpec := { name := "geomPoints", fn := fun _ => fun
  | [d1, d2, d3] => { results := [.lit (.bool false)], args := [d1, d2, d3] }
  | _ => none }
def GeomPointsWrongFalsely : Prop := geomPointsRow.holds Try.pinned (OpenSpec.ofChange geomPointsWrong)

/-- 'layoutlaw02.GeomOn': WHATEVER THE INPUT: true; the input reads as it did. -/
def geomOnSpec : ChangeSpec := { name := "geomOn", fn := fun _ => fun
  | [d1, d2] => { results := [.lit (.bool true)], args := [d1, d2] }
  | _ => none }
def geomOnRow : OpenClaim := { program := "ytomkamohcdcmhaa", sum := "54c7e7085287024aab615275cf3ea7c8ddd9277d8df974389cac9e5def7f2689", func := "layout/layoutlaw02.GeomOn", spec := "geomOn", unfollowed := true, recurses := true, apart := false }
def GeomOnSaid : Prop := geomOnRow.holds Try.pinned (OpenSpec.ofChange geomOnSpec)

/-- ITS FALSE NEIGHBOUR: 'it returns false'. Refute it at one input. -/
def geomOnWrong : ChangeSpec := { name := "geomOn", fn := fun _ => fun
  | [d1, d2] => { results := [.lit (.bool false)], args := [d1, d2] }
  | _ => none }
def GeomOnWrongFalsely : Prop := geomOnRow.holds Try.pinned (OpenSpec.ofChange geomOnWrong)

/-- 'layoutlaw02.GeomPairs': WHATEVER THE INPUT: true; the input reads as it did. -/
def geomPairsSpec : ChangeSpec := { name := "geomPairs", fn := fun _ => fun
  | [d1, d2] => { results := [.lit (.bool true)], args := [d1, d2] }
  | _ => none }
def geomPairsRow : OpenClaim := { program := "ytomkamohcdcmhaa", sum := "54c7e7085287024aab615275cf3ea7c8ddd9277d8df974389cac9e5def7f2689", func := "layout/layoutlaw02.GeomPairs", spec := "geomPairs", unfollowed := true, recurses := true, apart := false }
def GeomPairsSaid : Prop := geomPairsRow.holds Try.pinned (OpenSpec.ofChange geomPairsSpec)

/-- ITS FALSE NEIGHBOUR: 'it returns false'. Refute it at one input. -/
def geomPairsWrong : ChangeSpec := { name := "geomPairs", fn := fun _ => fun
  | [d1, d2] => { results := [.lit (.bool false)], args := [d1, d2] }
  | _ => none }
def GeomPairsWrongFalsely : Prop := geomPairsRow.holds Try.pinned (OpenSpec.ofChange geomPairsWrong)

/-- 'layoutlaw02.GeomTurns': WHATEVER THE INPUT: true; the input reads as it did. -/
def geomTurnsSpec : ChangeSpec := { name := "geomTurns", fn := fun _ => fun
  | [d1, d2, d3] => { results := [.lit (.bool true)], args := [d1, d2, d3] }
  | _ => none }
def geomTurnsRow : OpenClaim := { program := "ytomkamohcdcmhaa", sum := "54c7e7085287024aab615275cf3ea7c8ddd9277d8df974389cac9e5def7f2689", func := "layout/layoutlaw02.GeomTurns", spec := "geomTurns", unfollowed := true, recurses := true, apart := false }
def GeomTurnsSaid : Prop := geomTurnsRow.holds Try.pinned (OpenSpec.ofChange geomTurnsSpec)

/-- ITS FALSE NEIGHBOUR: 'it returns false'. Refute it at one input. -/
def geomTurnsWrong : ChangeSpec := { name := "geomTurns", fn := fun _ => fun
  | [d1, d2, d3] => { results := [.lit (.bool false)], args := [d1, d2, d3] }
  | _ => none }
def GeomTurnsWrongFalsely : Prop := geomTurnsRow.holds Try.pinned (OpenSpec.ofChange geomTurnsWrong)

/-- 'layoutlaw02.GeomSymmetric': WHATEVER THE INPUT: true; the input reads as it did. -/
def geomSymmetricSpec : ChangeSpec := { name := "geomSymmetric", fn := fun _ => fun
  | [d1, d2] => { results := [.lit (.bool true)], args := [d1, d2] }
  | _ => none }
def geomSymmetricRow : OpenClaim := { program := "ytomkamohcdcmhaa", sum := "54c7e7085287024aab615275cf3ea7c8ddd9277d8df974389cac9e5def7f2689", func := "layout/layoutlaw02.GeomSymmetric", spec := "geomSymmetric", unfollowed := true, recurses := true, apart := false }
def GeomSymmetricSaid : Prop := geomSymmetricRow.holds Try.pinned (OpenSpec.ofChange geomSymmetricSpec)

/-- ITS FALSE NEIGHBOUR: 'it returns false'. Refute it at one input. -/
def geomSymmetricWrong : ChangeSpec := { name := "geomSymmetric", fn := fun _ => fun
  | [d1, d2] => { results := [.lit (.bool false)], args := [d1, d2] }
  | _ => none }
def GeomSymmetricWrongFalsely : Prop := geomSymmetricRow.holds Try.pinned (OpenSpec.ofChange geomSymmetricWrong)

/-- 'layoutlaw02.GeomMetric': WHATEVER THE INPUT: true; the input reads as it did. -/
def geomMetricSpec : ChangeSpec := { name := "geomMetric", fn := fun _ => fun
  | [d1, d2, d3] => { results := [.lit (.bool true)], args := [d1, d2, d3] }
  | _ => none }
def geomMetricRow : OpenClaim := { program := "ytomkamohcdcmhaa", sum := "54c7e7085287024aab615275cf3ea7c8ddd9277d8df974389cac9e5def7f2689", func := "layout/layoutlaw02.GeomMetric", spec := "geomMetric", unfollowed := true, recurses := true, apart := false }
def GeomMetricSaid : Prop := geomMetricRow.holds Try.pinned (OpenSpec.ofChange geomMetricSpec)

/-- ITS FALSE NEIGHBOUR: 'it returns false'. Refute it at one input. -/
def geomMetricWrong : ChangeSpec := { name := "geomMetric", fn := fun _ => fun
  | [d1, d2, d3] => { results := [.lit (.bool false)], args := [d1, d2, d3] }
  | _ => none }
def GeomMetricWrongFalsely : Prop := geomMetricRow.holds Try.pinned (OpenSpec.ofChange geomMetricWrong)

/- THE SECOND FORM. 'bulk': how many values and letters a reading holds, each counted each time it is reached (what is shared counts as often as it is met; a slice's spare places count too). A statement '..UptoSaid' is the law's where the arguments, and the package variables that the reading takes, are together of bulk at most 1048576: NARROWER than '..Said'. Prove '..Said' where nothing that the law and all that it calls make is longer than what came in: it says more and counts as full. Else prove '..UptoSaid'. A law counts once. -/
mutual
def uptoBulk {H : Type} : DataW H → Nat
  | .lit (.string bytes) => bytes.length + 1
  | .lit _ => 1
  | .nil => 1
  | .ptr d => uptoBulk d + 1
  | .slice elems spare => uptoBulkAll elems + uptoBulkAll spare + 1
  | .agg parts => uptoBulkAll parts + 1
  | .iface _ d => uptoBulk d + 1
  | .map entries => uptoBulkEntries entries + 1
  | .held _ => 1
def uptoBulkAll {H : Type} : List (DataW H) → Nat
  | [] => 0
  | d :: r => uptoBulk d + uptoBulkAll r
def uptoBulkEntries {H : Type} : List (Lit × DataW H) → Nat
  | [] => 0
  | x :: r => uptoBulkEntry x + uptoBulkEntries r
def uptoBulkEntry {H : Type} : Lit × DataW H → Nat
  | (.string bytes, d) => bytes.length + uptoBulk d + 1
  | (_, d) => uptoBulk d + 1
 end
def uptoSmall : (H : Type) → List (DataW H) → Bool := fun _ ds => decide (uptoBulkAll ds ≤ 1048576)
def OpenSpec.upto (s : _root_.Go.ChangeSpec) : _root_.Go.OpenSpec := { _root_.Go.OpenSpec.ofChange s with cond := some uptoSmall }

/-- 'layoutlaw02.GeomPoints', WHERE WHAT IT READS IS OF BULK AT MOST 1048576: true; the input reads as it did. -/
def geomPointsUptoRow : OpenClaim := { program := "ytomkamohcdcmhaa", sum := "54c7e7085287024aab615275cf3ea7c8ddd9277d8df974389cac9e5def7f2689", func := "layout/layoutlaw02.GeomPoints", spec := "geomPoints", unfollowed := true, recurses := true, apart := false, narrowed := true }
def GeomPointsUptoSaid : Prop := geomPointsUptoRow.holds Try.pinned (OpenSpec.upto geomPointsSpec)

/-- 'layoutlaw02.GeomOn', WHERE WHAT IT READS IS OF BULK AT MOST 1048576: true; the input reads as it did. -/
def geomOnUptoRow : OpenClaim := { program := "ytomkamohcdcmhaa", sum := "54c7e7085287024aab615275cf3ea7c8ddd9277d8df974389cac9e5def7f2689", func := "layout/layoutlaw02.GeomOn", spec := "geomOn", unfollowed := true, recurses := true, apart := false, narrowed := true }
def GeomOnUptoSaid : Prop := geomOnUptoRow.holds Try.pinned (OpenSpec.upto geomOnSpec)

/-- 'layoutlaw02.GeomPairs', WHERE WHAT IT READS IS OF BULK AT MOST 1048576: true; the input reads as it did. -/
def geomPairsUptoRow : OpenClaim := { program := "ytomkamohcdcmhaa", sum := "54c7e7085287024aab615275cf3ea7c8ddd9277d8df974389cac9e5def7f2689", func := "layout/layoutlaw02.GeomPairs", spec := "geomPairs", unfollowed := true, recurses := true, apart := false, narrowed := true }
def GeomPairsUptoSaid : Prop := geomPairsUptoRow.holds Try.pinned (OpenSpec.upto geomPairsSpec)

/-- 'layoutlaw02.GeomTurns', WHERE WHAT IT READS IS OF BULK AT MOST 1048576: true; the input reads as it did. -/
def geomTurnsUptoRow : OpenClaim := { program := "ytomkamohcdcmhaa", sum := "54c7e7085287024aab615275cf3ea7c8ddd9277d8df974389cac9e5def7f2689", func := "layout/layoutlaw02.GeomTurns", spec := "geomTurns", unfollowed := true, recurses := true, apart := false, narrowed := true }
def GeomTurnsUptoSaid : Prop := geomTurnsUptoRow.holds Try.pinned (OpenSpec.upto geomTurnsSpec)

/-- 'layoutlaw02.GeomSymmetric', WHERE WHAT IT READS IS OF BULK AT MOST 1048576: true; the input reads as it did. -/
def geomSymmetricUptoRow : OpenClaim := { program := "ytomkamohcdcmhaa", sum := "54c7e7085287024aab615275cf3ea7c8ddd9277d8df974389cac9e5def7f2689", func := "layout/layoutlaw02.GeomSymmetric", spec := "geomSymmetric", unfollowed := true, recurses := true, apart := false, narrowed := true }
def GeomSymmetricUptoSaid : Prop := geomSymmetricUptoRow.holds Try.pinned (OpenSpec.upto geomSymmetricSpec)

/-- 'layoutlaw02.GeomMetric', WHERE WHAT IT READS IS OF BULK AT MOST 1048576: true; the input reads as it did. -/
def geomMetricUptoRow : OpenClaim := { program := "ytomkamohcdcmhaa", sum := "54c7e7085287024aab615275cf3ea7c8ddd9277d8df974389cac9e5def7f2689", func := "layout/layoutlaw02.GeomMetric", spec := "geomMetric", unfollowed := true, recurses := true, apart := false, narrowed := true }
def GeomMetricUptoSaid : Prop := geomMetricUptoRow.holds Try.pinned (OpenSpec.upto geomMetricSpec)

end Rows
end Go.Proofs.Ytomkamohcdcmhaa
