/-
  DERIVED. GIVEN WITH THE SEED: THE CARDS: each row of YtdacnkjmimhcaaaDoorRows.lean that lists a variable, with what it lists TIED to the program's text (the seventh form; the later family's looks); each row that meets fmt, with fmt's text TOLD by the authors' own Lean function (tested against real Go, not proved from fmt's source: count such statements apart). THE CARD IS WHAT COUNTS. Prove the row's statement (the work); the ties are given (YtdacnkjmimhcaaaDoorTie.lean); close each card by the builder's one call (the guide's Derived/Test/ToyasCard.lean, 'card_holds'). Laid BY PROGRAM, IN A SANDBOX (cutbox-door.mjs). By AI agents, Wed Nov 11 2026. No macro, syntax, notation, axiom, sorry.
-/
import Derived.Test.YtdacnkjmimhcaaaDoorRows
import GoSem.ClaimSeven
namespace Go.Proofs.YtdacnkjmimhcaaaDoor
namespace Rows

/-- THE TIED CARD OF 'layoutlaw36.CanonChecks'. -/
def canonChecksCard : Claim7 := { stood := { row := canonChecksRow, standIns := [], harness := (true, "7654ed8834c243f7ae06da0b2f1d02a588fbbeb95da699122ddc5570ff1aaf19"), looks := false }, kinds := [], alts := [], laidByText := true, laidKinds := [.data], laidTests := true, laidLooks := .later }
def CanonChecksCardSaid : Prop := Claim7.holds Tryd.pinned (.plain (OpenSpec.ofChange canonChecksSpec)) canonChecksCard

/-- THE TIED CARD OF 'layoutlaw36.CanonOrders'. -/
def canonOrdersCard : Claim7 := { stood := { row := canonOrdersRow, standIns := [], harness := (true, "7654ed8834c243f7ae06da0b2f1d02a588fbbeb95da699122ddc5570ff1aaf19"), looks := false }, kinds := [], alts := [], laidByText := true, laidKinds := [.data], laidTests := true, laidLooks := .later }
def CanonOrdersCardSaid : Prop := Claim7.holds Tryd.pinned (.plain (OpenSpec.ofChange canonOrdersSpec)) canonOrdersCard

/-- THE TIED CARD OF 'layoutlaw36.CanonContours'. -/
def canonContoursCard : Claim7 := { stood := { row := canonContoursRow, standIns := [], harness := (true, "7654ed8834c243f7ae06da0b2f1d02a588fbbeb95da699122ddc5570ff1aaf19"), looks := false }, kinds := [], alts := [], laidByText := true, laidKinds := [.data], laidTests := true, laidLooks := .later }
def CanonContoursCardSaid : Prop := Claim7.holds Tryd.pinned (.plain (OpenSpec.ofChange canonContoursSpec)) canonContoursCard

/-- THE TIED CARD OF 'layoutlaw36.CanonCounts'. -/
def canonCountsCard : Claim7 := { stood := { row := canonCountsRow, standIns := [], harness := (true, "7654ed8834c243f7ae06da0b2f1d02a588fbbeb95da699122ddc5570ff1aaf19"), looks := false }, kinds := [], alts := [], laidByText := true, laidKinds := [.data], laidTests := true, laidLooks := .later }
def CanonCountsCardSaid : Prop := Claim7.holds Tryd.pinned (.plain (OpenSpec.ofChange canonCountsSpec)) canonCountsCard

/-- THE SECOND FORM's CARD OF 'layoutlaw36.CanonChecks'. -/
def canonChecksUptoCard : Claim7 := { stood := { row := canonChecksUptoRow, standIns := [], harness := (true, "7654ed8834c243f7ae06da0b2f1d02a588fbbeb95da699122ddc5570ff1aaf19"), looks := false }, kinds := [], alts := [], laidByText := true, laidKinds := [.data], laidTests := true, laidLooks := .later }
def CanonChecksUptoCardSaid : Prop := Claim7.holds Tryd.pinned (.plain (OpenSpec.upto canonChecksSpec)) canonChecksUptoCard

/-- THE SECOND FORM's CARD OF 'layoutlaw36.CanonOrders'. -/
def canonOrdersUptoCard : Claim7 := { stood := { row := canonOrdersUptoRow, standIns := [], harness := (true, "7654ed8834c243f7ae06da0b2f1d02a588fbbeb95da699122ddc5570ff1aaf19"), looks := false }, kinds := [], alts := [], laidByText := true, laidKinds := [.data], laidTests := true, laidLooks := .later }
def CanonOrdersUptoCardSaid : Prop := Claim7.holds Tryd.pinned (.plain (OpenSpec.upto canonOrdersSpec)) canonOrdersUptoCard

/-- THE SECOND FORM's CARD OF 'layoutlaw36.CanonContours'. -/
def canonContoursUptoCard : Claim7 := { stood := { row := canonContoursUptoRow, standIns := [], harness := (true, "7654ed8834c243f7ae06da0b2f1d02a588fbbeb95da699122ddc5570ff1aaf19"), looks := false }, kinds := [], alts := [], laidByText := true, laidKinds := [.data], laidTests := true, laidLooks := .later }
def CanonContoursUptoCardSaid : Prop := Claim7.holds Tryd.pinned (.plain (OpenSpec.upto canonContoursSpec)) canonContoursUptoCard

/-- THE SECOND FORM's CARD OF 'layoutlaw36.CanonCounts'. -/
def canonCountsUptoCard : Claim7 := { stood := { row := canonCountsUptoRow, standIns := [], harness := (true, "7654ed8834c243f7ae06da0b2f1d02a588fbbeb95da699122ddc5570ff1aaf19"), looks := false }, kinds := [], alts := [], laidByText := true, laidKinds := [.data], laidTests := true, laidLooks := .later }
def CanonCountsUptoCardSaid : Prop := Claim7.holds Tryd.pinned (.plain (OpenSpec.upto canonCountsSpec)) canonCountsUptoCard
end Rows
end Go.Proofs.YtdacnkjmimhcaaaDoor
