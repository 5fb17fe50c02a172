/-
  DERIVED. GIVEN WITH THE SEED: THE CARDS: each row of YtiihgpgpbgafiaaDoorRows.lean that lists a variable, with what it lists TIED to the program's text (the seventh form; the later family's looks); each row that meets fmt, with fmt's text TOLD by the authors' own Lean function (tested against real Go, not proved from fmt's source: count such statements apart). THE CARD IS WHAT COUNTS. Prove the row's statement (the work); the ties are given (YtiihgpgpbgafiaaDoorTie.lean); close each card by the builder's one call (the guide's Derived/Test/ToyasCard.lean, 'card_holds'). Laid BY PROGRAM, IN A SANDBOX (cutbox-door.mjs). By AI agents, Wed Nov 11 2026. No macro, syntax, notation, axiom, sorry.
-/
import Derived.Test.YtiihgpgpbgafiaaDoorRows
import GoSem.ClaimSeven
namespace Go.Proofs.YtiihgpgpbgafiaaDoor
namespace Rows

/-- THE TIED CARD OF 'layoutlaw40.BendNets'. -/
def bendNetsCard : Claim7 := { stood := { row := bendNetsRow, standIns := [], harness := (true, "5bb94a4acf842dd51dabbaaca03715e3e9fc26e8dcf6de1cfae8e80102db717d"), looks := false }, kinds := [], alts := [], laidByText := true, laidKinds := [.data], laidTests := true, laidLooks := .later }
def BendNetsCardSaid : Prop := Claim7.holds Tryd.pinned (.plain (OpenSpec.ofChange bendNetsSpec)) bendNetsCard

/-- THE TIED CARD OF 'layoutlaw40.BendShapes'. -/
def bendShapesCard : Claim7 := { stood := { row := bendShapesRow, standIns := [], harness := (true, "5bb94a4acf842dd51dabbaaca03715e3e9fc26e8dcf6de1cfae8e80102db717d"), looks := false }, kinds := [], alts := [], laidByText := true, laidKinds := [.data], laidTests := true, laidLooks := .later }
def BendShapesCardSaid : Prop := Claim7.holds Tryd.pinned (.plain (OpenSpec.ofChange bendShapesSpec)) bendShapesCard

/-- THE TIED CARD OF 'layoutlaw40.BendLeast'. -/
def bendLeastCard : Claim7 := { stood := { row := bendLeastRow, standIns := [], harness := (true, "5bb94a4acf842dd51dabbaaca03715e3e9fc26e8dcf6de1cfae8e80102db717d"), looks := false }, kinds := [], alts := [], laidByText := true, laidKinds := [.data], laidTests := true, laidLooks := .later }
def BendLeastCardSaid : Prop := Claim7.holds Tryd.pinned (.plain (OpenSpec.ofChange bendLeastSpec)) bendLeastCard

/-- THE TIED CARD OF 'layoutlaw40.BendBounds'. -/
def bendBoundsCard : Claim7 := { stood := { row := bendBoundsRow, standIns := [], harness := (true, "5bb94a4acf842dd51dabbaaca03715e3e9fc26e8dcf6de1cfae8e80102db717d"), looks := false }, kinds := [], alts := [], laidByText := true, laidKinds := [.data], laidTests := true, laidLooks := .later }
def BendBoundsCardSaid : Prop := Claim7.holds Tryd.pinned (.plain (OpenSpec.ofChange bendBoundsSpec)) bendBoundsCard

/-- THE TIED CARD OF 'layoutlaw40.BendMirrors'. -/
def bendMirrorsCard : Claim7 := { stood := { row := bendMirrorsRow, standIns := [], harness := (true, "5bb94a4acf842dd51dabbaaca03715e3e9fc26e8dcf6de1cfae8e80102db717d"), looks := false }, kinds := [], alts := [], laidByText := true, laidKinds := [.data], laidTests := true, laidLooks := .later }
def BendMirrorsCardSaid : Prop := Claim7.holds Tryd.pinned (.plain (OpenSpec.ofChange bendMirrorsSpec)) bendMirrorsCard

/-- THE SECOND FORM's CARD OF 'layoutlaw40.BendNets'. -/
def bendNetsUptoCard : Claim7 := { stood := { row := bendNetsUptoRow, standIns := [], harness := (true, "5bb94a4acf842dd51dabbaaca03715e3e9fc26e8dcf6de1cfae8e80102db717d"), looks := false }, kinds := [], alts := [], laidByText := true, laidKinds := [.data], laidTests := true, laidLooks := .later }
def BendNetsUptoCardSaid : Prop := Claim7.holds Tryd.pinned (.plain (OpenSpec.upto bendNetsSpec)) bendNetsUptoCard

/-- THE SECOND FORM's CARD OF 'layoutlaw40.BendShapes'. -/
def bendShapesUptoCard : Claim7 := { stood := { row := bendShapesUptoRow, standIns := [], harness := (true, "5bb94a4acf842dd51dabbaaca03715e3e9fc26e8dcf6de1cfae8e80102db717d"), looks := false }, kinds := [], alts := [], laidByText := true, laidKinds := [.data], laidTests := true, laidLooks := .later }
def BendShapesUptoCardSaid : Prop := Claim7.holds Tryd.pinned (.plain (OpenSpec.upto bendShapesSpec)) bendShapesUptoCard

/-- THE SECOND FORM's CARD OF 'layoutlaw40.BendLeast'. -/
def bendLeastUptoCard : Claim7 := { stood := { row := bendLeastUptoRow, standIns := [], harness := (true, "5bb94a4acf842dd51dabbaaca03715e3e9fc26e8dcf6de1cfae8e80102db717d"), looks := false }, kinds := [], alts := [], laidByText := true, laidKinds := [.data], laidTests := true, laidLooks := .later }
def BendLeastUptoCardSaid : Prop := Claim7.holds Tryd.pinned (.plain (OpenSpec.upto bendLeastSpec)) bendLeastUptoCard

/-- THE SECOND FORM's CARD OF 'layoutlaw40.BendBounds'. -/
def bendBoundsUptoCard : Claim7 := { stood := { row := bendBoundsUptoRow, standIns := [], harness := (true, "5bb94a4acf842dd51dabbaaca03715e3e9fc26e8dcf6de1cfae8e80102db717d"), looks := false }, kinds := [], alts := [], laidByText := true, laidKinds := [.data], laidTests := true, laidLooks := .later }
def BendBoundsUptoCardSaid : Prop := Claim7.holds Tryd.pinned (.plain (OpenSpec.upto bendBoundsSpec)) bendBoundsUptoCard

/-- THE SECOND FORM's CARD OF 'layoutlaw40.BendMirrors'. -/
def bendMirrorsUptoCard : Claim7 := { stood := { row := bendMirrorsUptoRow, standIns := [], harness := (true, "5bb94a4acf842dd51dabbaaca03715e3e9fc26e8dcf6de1cfae8e80102db717d"), looks := false }, kinds := [], alts := [], laidByText := true, laidKinds := [.data], laidTests := true, laidLooks := .later }
def BendMirrorsUptoCardSaid : Prop := Claim7.holds Tryd.pinned (.plain (OpenSpec.upto bendMirrorsSpec)) bendMirrorsUptoCard
end Rows
end Go.Proofs.YtiihgpgpbgafiaaDoor
