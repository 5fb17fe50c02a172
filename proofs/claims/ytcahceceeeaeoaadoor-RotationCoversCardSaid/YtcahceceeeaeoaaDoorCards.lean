/-
  DERIVED. GIVEN WITH THE SEED: THE CARDS: each row of YtcahceceeeaeoaaDoorRows.lean that lists a variable, with what it lists TIED to the program's text (the seventh form; the later family's looks); each row that meets fmt, with fmt's text TOLD by the authors' own Lean function (tested against real Go, not proved from fmt's source: count such statements apart). THE CARD IS WHAT COUNTS. Prove the row's statement (the work); the ties are given (YtcahceceeeaeoaaDoorTie.lean); close each card by the builder's one call (the guide's Derived/Test/ToyasCard.lean, 'card_holds'). Laid BY PROGRAM, IN A SANDBOX (cutbox-door.mjs). By AI agents, Wed Nov 11 2026. No macro, syntax, notation, axiom, sorry.
-/
import Derived.Test.YtcahceceeeaeoaaDoorRows
import GoSem.ClaimSeven
namespace Go.Proofs.YtcahceceeeaeoaaDoor
namespace Rows

/-- THE TIED CARD OF 'layoutlaw29.RotationFaces'. -/
def rotationFacesCard : Claim7 := { stood := { row := rotationFacesRow, standIns := [], harness := (true, "e0de5d238eba4b72f172ace64ccfc8d6dd28c35e8d54f8bf6617214a6a7b3d23"), looks := false }, kinds := [], alts := [], laidByText := true, laidKinds := [.data], laidTests := true, laidLooks := .later }
def RotationFacesCardSaid : Prop := Claim7.holds Tryd.pinned (.plain (OpenSpec.ofChange rotationFacesSpec)) rotationFacesCard

/-- THE TIED CARD OF 'layoutlaw29.RotationDarts'. -/
def rotationDartsCard : Claim7 := { stood := { row := rotationDartsRow, standIns := [], harness := (true, "e0de5d238eba4b72f172ace64ccfc8d6dd28c35e8d54f8bf6617214a6a7b3d23"), looks := false }, kinds := [], alts := [], laidByText := true, laidKinds := [.data], laidTests := true, laidLooks := .later }
def RotationDartsCardSaid : Prop := Claim7.holds Tryd.pinned (.plain (OpenSpec.ofChange rotationDartsSpec)) rotationDartsCard

/-- THE TIED CARD OF 'layoutlaw29.RotationDeletes'. -/
def rotationDeletesCard : Claim7 := { stood := { row := rotationDeletesRow, standIns := [], harness := (true, "e0de5d238eba4b72f172ace64ccfc8d6dd28c35e8d54f8bf6617214a6a7b3d23"), looks := false }, kinds := [], alts := [], laidByText := true, laidKinds := [.data], laidTests := true, laidLooks := .later }
def RotationDeletesCardSaid : Prop := Claim7.holds Tryd.pinned (.plain (OpenSpec.ofChange rotationDeletesSpec)) rotationDeletesCard

/-- THE TIED CARD OF 'layoutlaw29.RotationCovers'. -/
def rotationCoversCard : Claim7 := { stood := { row := rotationCoversRow, standIns := [], harness := (true, "e0de5d238eba4b72f172ace64ccfc8d6dd28c35e8d54f8bf6617214a6a7b3d23"), looks := false }, kinds := [], alts := [], laidByText := true, laidKinds := [.data], laidTests := true, laidLooks := .later }
def RotationCoversCardSaid : Prop := Claim7.holds Tryd.pinned (.plain (OpenSpec.ofChange rotationCoversSpec)) rotationCoversCard

/-- THE TIED CARD OF 'layoutlaw29.RotationMirrors'. -/
def rotationMirrorsCard : Claim7 := { stood := { row := rotationMirrorsRow, standIns := [], harness := (true, "e0de5d238eba4b72f172ace64ccfc8d6dd28c35e8d54f8bf6617214a6a7b3d23"), looks := false }, kinds := [], alts := [], laidByText := true, laidKinds := [.data], laidTests := true, laidLooks := .later }
def RotationMirrorsCardSaid : Prop := Claim7.holds Tryd.pinned (.plain (OpenSpec.ofChange rotationMirrorsSpec)) rotationMirrorsCard

/-- THE SECOND FORM's CARD OF 'layoutlaw29.RotationFaces'. -/
def rotationFacesUptoCard : Claim7 := { stood := { row := rotationFacesUptoRow, standIns := [], harness := (true, "e0de5d238eba4b72f172ace64ccfc8d6dd28c35e8d54f8bf6617214a6a7b3d23"), looks := false }, kinds := [], alts := [], laidByText := true, laidKinds := [.data], laidTests := true, laidLooks := .later }
def RotationFacesUptoCardSaid : Prop := Claim7.holds Tryd.pinned (.plain (OpenSpec.upto rotationFacesSpec)) rotationFacesUptoCard

/-- THE SECOND FORM's CARD OF 'layoutlaw29.RotationDarts'. -/
def rotationDartsUptoCard : Claim7 := { stood := { row := rotationDartsUptoRow, standIns := [], harness := (true, "e0de5d238eba4b72f172ace64ccfc8d6dd28c35e8d54f8bf6617214a6a7b3d23"), looks := false }, kinds := [], alts := [], laidByText := true, laidKinds := [.data], laidTests := true, laidLooks := .later }
def RotationDartsUptoCardSaid : Prop := Claim7.holds Tryd.pinned (.plain (OpenSpec.upto rotationDartsSpec)) rotationDartsUptoCard

/-- THE SECOND FORM's CARD OF 'layoutlaw29.RotationDeletes'. -/
def rotationDeletesUptoCard : Claim7 := { stood := { row := rotationDeletesUptoRow, standIns := [], harness := (true, "e0de5d238eba4b72f172ace64ccfc8d6dd28c35e8d54f8bf6617214a6a7b3d23"), looks := false }, kinds := [], alts := [], laidByText := true, laidKinds := [.data], laidTests := true, laidLooks := .later }
def RotationDeletesUptoCardSaid : Prop := Claim7.holds Tryd.pinned (.plain (OpenSpec.upto rotationDeletesSpec)) rotationDeletesUptoCard

/-- THE SECOND FORM's CARD OF 'layoutlaw29.RotationCovers'. -/
def rotationCoversUptoCard : Claim7 := { stood := { row := rotationCoversUptoRow, standIns := [], harness := (true, "e0de5d238eba4b72f172ace64ccfc8d6dd28c35e8d54f8bf6617214a6a7b3d23"), looks := false }, kinds := [], alts := [], laidByText := true, laidKinds := [.data], laidTests := true, laidLooks := .later }
def RotationCoversUptoCardSaid : Prop := Claim7.holds Tryd.pinned (.plain (OpenSpec.upto rotationCoversSpec)) rotationCoversUptoCard

/-- THE SECOND FORM's CARD OF 'layoutlaw29.RotationMirrors'. -/
def rotationMirrorsUptoCard : Claim7 := { stood := { row := rotationMirrorsUptoRow, standIns := [], harness := (true, "e0de5d238eba4b72f172ace64ccfc8d6dd28c35e8d54f8bf6617214a6a7b3d23"), looks := false }, kinds := [], alts := [], laidByText := true, laidKinds := [.data], laidTests := true, laidLooks := .later }
def RotationMirrorsUptoCardSaid : Prop := Claim7.holds Tryd.pinned (.plain (OpenSpec.upto rotationMirrorsSpec)) rotationMirrorsUptoCard
end Rows
end Go.Proofs.YtcahceceeeaeoaaDoor
