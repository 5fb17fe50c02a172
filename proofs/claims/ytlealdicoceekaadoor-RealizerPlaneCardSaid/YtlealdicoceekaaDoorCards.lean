/-
  DERIVED. GIVEN WITH THE SEED: THE CARDS: each row of YtlealdicoceekaaDoorRows.lean that lists a variable, with what it lists TIED to the program's text (the seventh form; the later family's looks); each row that meets fmt, with fmt's text TOLD by the authors' own Lean function (tested against real Go, not proved from fmt's source: count such statements apart). THE CARD IS WHAT COUNTS. Prove the row's statement (the work); the ties are given (YtlealdicoceekaaDoorTie.lean); close each card by the builder's one call (the guide's Derived/Test/ToyasCard.lean, 'card_holds'). Laid BY PROGRAM, IN A SANDBOX (cutbox-door.mjs). By AI agents, Wed Nov 11 2026. No macro, syntax, notation, axiom, sorry.
-/
import Derived.Test.YtlealdicoceekaaDoorRows
import GoSem.ClaimSeven
namespace Go.Proofs.YtlealdicoceekaaDoor
namespace Rows

/-- THE TIED CARD OF 'layoutlaw38.RealizerBuilds'. -/
def realizerBuildsCard : Claim7 := { stood := { row := realizerBuildsRow, standIns := [], harness := (true, "283e339f6491271a8c7935b25f712e4206de4238997f0f77703a4f7f4cf53941"), looks := false }, kinds := [], alts := [], laidByText := true, laidKinds := [.data], laidTests := true, laidLooks := .later }
def RealizerBuildsCardSaid : Prop := Claim7.holds Tryd.pinned (.plain (OpenSpec.ofChange realizerBuildsSpec)) realizerBuildsCard

/-- THE TIED CARD OF 'layoutlaw38.RealizerChecks'. -/
def realizerChecksCard : Claim7 := { stood := { row := realizerChecksRow, standIns := [], harness := (true, "283e339f6491271a8c7935b25f712e4206de4238997f0f77703a4f7f4cf53941"), looks := false }, kinds := [], alts := [], laidByText := true, laidKinds := [.data], laidTests := true, laidLooks := .later }
def RealizerChecksCardSaid : Prop := Claim7.holds Tryd.pinned (.plain (OpenSpec.ofChange realizerChecksSpec)) realizerChecksCard

/-- THE TIED CARD OF 'layoutlaw38.RealizerDraws'. -/
def realizerDrawsCard : Claim7 := { stood := { row := realizerDrawsRow, standIns := [], harness := (true, "283e339f6491271a8c7935b25f712e4206de4238997f0f77703a4f7f4cf53941"), looks := false }, kinds := [], alts := [], laidByText := true, laidKinds := [.data], laidTests := true, laidLooks := .later }
def RealizerDrawsCardSaid : Prop := Claim7.holds Tryd.pinned (.plain (OpenSpec.ofChange realizerDrawsSpec)) realizerDrawsCard

/-- THE TIED CARD OF 'layoutlaw38.RealizerTrees'. -/
def realizerTreesCard : Claim7 := { stood := { row := realizerTreesRow, standIns := [], harness := (true, "283e339f6491271a8c7935b25f712e4206de4238997f0f77703a4f7f4cf53941"), looks := false }, kinds := [], alts := [], laidByText := true, laidKinds := [.data], laidTests := true, laidLooks := .later }
def RealizerTreesCardSaid : Prop := Claim7.holds Tryd.pinned (.plain (OpenSpec.ofChange realizerTreesSpec)) realizerTreesCard

/-- THE TIED CARD OF 'layoutlaw38.RealizerPlane'. -/
def realizerPlaneCard : Claim7 := { stood := { row := realizerPlaneRow, standIns := [], harness := (true, "283e339f6491271a8c7935b25f712e4206de4238997f0f77703a4f7f4cf53941"), looks := false }, kinds := [], alts := [], laidByText := true, laidKinds := [.data], laidTests := true, laidLooks := .later }
def RealizerPlaneCardSaid : Prop := Claim7.holds Tryd.pinned (.plain (OpenSpec.ofChange realizerPlaneSpec)) realizerPlaneCard

/-- THE SECOND FORM's CARD OF 'layoutlaw38.RealizerBuilds'. -/
def realizerBuildsUptoCard : Claim7 := { stood := { row := realizerBuildsUptoRow, standIns := [], harness := (true, "283e339f6491271a8c7935b25f712e4206de4238997f0f77703a4f7f4cf53941"), looks := false }, kinds := [], alts := [], laidByText := true, laidKinds := [.data], laidTests := true, laidLooks := .later }
def RealizerBuildsUptoCardSaid : Prop := Claim7.holds Tryd.pinned (.plain (OpenSpec.upto realizerBuildsSpec)) realizerBuildsUptoCard

/-- THE SECOND FORM's CARD OF 'layoutlaw38.RealizerChecks'. -/
def realizerChecksUptoCard : Claim7 := { stood := { row := realizerChecksUptoRow, standIns := [], harness := (true, "283e339f6491271a8c7935b25f712e4206de4238997f0f77703a4f7f4cf53941"), looks := false }, kinds := [], alts := [], laidByText := true, laidKinds := [.data], laidTests := true, laidLooks := .later }
def RealizerChecksUptoCardSaid : Prop := Claim7.holds Tryd.pinned (.plain (OpenSpec.upto realizerChecksSpec)) realizerChecksUptoCard

/-- THE SECOND FORM's CARD OF 'layoutlaw38.RealizerDraws'. -/
def realizerDrawsUptoCard : Claim7 := { stood := { row := realizerDrawsUptoRow, standIns := [], harness := (true, "283e339f6491271a8c7935b25f712e4206de4238997f0f77703a4f7f4cf53941"), looks := false }, kinds := [], alts := [], laidByText := true, laidKinds := [.data], laidTests := true, laidLooks := .later }
def RealizerDrawsUptoCardSaid : Prop := Claim7.holds Tryd.pinned (.plain (OpenSpec.upto realizerDrawsSpec)) realizerDrawsUptoCard

/-- THE SECOND FORM's CARD OF 'layoutlaw38.RealizerTrees'. -/
def realizerTreesUptoCard : Claim7 := { stood := { row := realizerTreesUptoRow, standIns := [], harness := (true, "283e339f6491271a8c7935b25f712e4206de4238997f0f77703a4f7f4cf53941"), looks := false }, kinds := [], alts := [], laidByText := true, laidKinds := [.data], laidTests := true, laidLooks := .later }
def RealizerTreesUptoCardSaid : Prop := Claim7.holds Tryd.pinned (.plain (OpenSpec.upto realizerTreesSpec)) realizerTreesUptoCard

/-- THE SECOND FORM's CARD OF 'layoutlaw38.RealizerPlane'. -/
def realizerPlaneUptoCard : Claim7 := { stood := { row := realizerPlaneUptoRow, standIns := [], harness := (true, "283e339f6491271a8c7935b25f712e4206de4238997f0f77703a4f7f4cf53941"), looks := false }, kinds := [], alts := [], laidByText := true, laidKinds := [.data], laidTests := true, laidLooks := .later }
def RealizerPlaneUptoCardSaid : Prop := Claim7.holds Tryd.pinned (.plain (OpenSpec.upto realizerPlaneSpec)) realizerPlaneUptoCard
end Rows
end Go.Proofs.YtlealdicoceekaaDoor
