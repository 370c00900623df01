/-
  DERIVED. GIVEN WITH THE SEED: THE CARDS: each row of YtepjcfhkbcchmaaDoorRows.lean that lists a variable, with what it lists TIED to the program's text (the seventh form; the later family's looks); each row that meets fmt, with fmt's text TOLD by the authors' own Lean function (tested against real Go, not proved from fmt's source: count such statements apart). THE CARD IS WHAT COUNTS. Prove the row's statement (the work); the ties are given (YtepjcfhkbcchmaaDoorTie.lean); close each card by the builder's one call (the guide's Derived/Test/ToyasCard.lean, 'card_holds'). Laid BY PROGRAM, IN A SANDBOX (cutbox-door.mjs). By AI agents, Wed Nov 11 2026. No macro, syntax, notation, axiom, sorry.
-/
import Derived.Test.YtepjcfhkbcchmaaDoorRows
import GoSem.ClaimSeven
namespace Go.Proofs.YtepjcfhkbcchmaaDoor
namespace Rows

/-- THE TIED CARD OF 'halterlaw30.RenderApart'. -/
def renderApartCard : Claim7 := { stood := { row := renderApartRow, standIns := [], harness := (true, "5b78e904ddc4a8d94f585d3cf8dc0d5fb0c1859549ea26c061ba15a1e60c9b40"), looks := true }, kinds := [], alts := [], laidByText := true, laidKinds := [.data, .data, .data, .data, .pinned], laidTests := true, laidLooks := .later }
def RenderApartCardSaid : Prop := Claim7.holds Tryd.pinned (.plain (OpenSpec.ofChange renderApartSpec)) renderApartCard

/-- THE TIED CARD OF 'halterlaw24.FamilySteps'. -/
def familyStepsCard : Claim7 := { stood := { row := familyStepsRow, standIns := [], harness := (true, "5b78e904ddc4a8d94f585d3cf8dc0d5fb0c1859549ea26c061ba15a1e60c9b40"), looks := true }, kinds := [], alts := [], laidByText := true, laidKinds := [.handle], laidTests := true, laidLooks := .later }
def FamilyStepsCardSaid : Prop := Claim7.holds Tryd.pinned (.plain (OpenSpec.ofChange familyStepsSpec)) familyStepsCard

/-- THE TIED CARD OF 'halterlaw24.FamilyOrphans'. -/
def familyOrphansCard : Claim7 := { stood := { row := familyOrphansRow, standIns := [], harness := (true, "5b78e904ddc4a8d94f585d3cf8dc0d5fb0c1859549ea26c061ba15a1e60c9b40"), looks := true }, kinds := [], alts := [], laidByText := true, laidKinds := [.handle], laidTests := true, laidLooks := .later }
def FamilyOrphansCardSaid : Prop := Claim7.holds Tryd.pinned (.plain (OpenSpec.ofChange familyOrphansSpec)) familyOrphansCard

/-- THE TIED CARD OF 'halterlaw16.PathSplits'. -/
def pathSplitsCard : Claim7 := { stood := { row := pathSplitsRow, standIns := [], harness := (true, "5b78e904ddc4a8d94f585d3cf8dc0d5fb0c1859549ea26c061ba15a1e60c9b40"), looks := true }, kinds := [], alts := [], laidByText := true, laidKinds := [.data, .handle, .pinned], laidTests := true, laidLooks := .later }
def PathSplitsCardSaid : Prop := Claim7.holds Tryd.pinned (.plain (OpenSpec.ofChange pathSplitsSpec)) pathSplitsCard

/-- THE TIED CARD OF 'halterlaw16.PathBack'. -/
def pathBackCard : Claim7 := { stood := { row := pathBackRow, standIns := [], harness := (true, "5b78e904ddc4a8d94f585d3cf8dc0d5fb0c1859549ea26c061ba15a1e60c9b40"), looks := true }, kinds := [], alts := [], laidByText := true, laidKinds := [.data, .handle, .pinned], laidTests := true, laidLooks := .later }
def PathBackCardSaid : Prop := Claim7.holds Tryd.pinned (.plain (OpenSpec.ofChange pathBackSpec)) pathBackCard

/-- THE TIED CARD OF 'halterlaw16.PathLasts'. -/
def pathLastsCard : Claim7 := { stood := { row := pathLastsRow, standIns := [], harness := (true, "5b78e904ddc4a8d94f585d3cf8dc0d5fb0c1859549ea26c061ba15a1e60c9b40"), looks := true }, kinds := [], alts := [], laidByText := true, laidKinds := [.data, .handle, .pinned], laidTests := true, laidLooks := .later }
def PathLastsCardSaid : Prop := Claim7.holds Tryd.pinned (.plain (OpenSpec.ofChange pathLastsSpec)) pathLastsCard

/-- THE SECOND FORM's CARD OF 'halterlaw30.RenderApart'. -/
def renderApartUptoCard : Claim7 := { stood := { row := renderApartUptoRow, standIns := [], harness := (true, "5b78e904ddc4a8d94f585d3cf8dc0d5fb0c1859549ea26c061ba15a1e60c9b40"), looks := true }, kinds := [], alts := [], laidByText := true, laidKinds := [.data, .data, .data, .data, .pinned], laidTests := true, laidLooks := .later }
def RenderApartUptoCardSaid : Prop := Claim7.holds Tryd.pinned (.plain (OpenSpec.upto renderApartSpec)) renderApartUptoCard

/-- THE SECOND FORM's CARD OF 'halterlaw24.FamilySteps'. -/
def familyStepsUptoCard : Claim7 := { stood := { row := familyStepsUptoRow, standIns := [], harness := (true, "5b78e904ddc4a8d94f585d3cf8dc0d5fb0c1859549ea26c061ba15a1e60c9b40"), looks := true }, kinds := [], alts := [], laidByText := true, laidKinds := [.handle], laidTests := true, laidLooks := .later }
def FamilyStepsUptoCardSaid : Prop := Claim7.holds Tryd.pinned (.plain (OpenSpec.upto familyStepsSpec)) familyStepsUptoCard

/-- THE SECOND FORM's CARD OF 'halterlaw24.FamilyOrphans'. -/
def familyOrphansUptoCard : Claim7 := { stood := { row := familyOrphansUptoRow, standIns := [], harness := (true, "5b78e904ddc4a8d94f585d3cf8dc0d5fb0c1859549ea26c061ba15a1e60c9b40"), looks := true }, kinds := [], alts := [], laidByText := true, laidKinds := [.handle], laidTests := true, laidLooks := .later }
def FamilyOrphansUptoCardSaid : Prop := Claim7.holds Tryd.pinned (.plain (OpenSpec.upto familyOrphansSpec)) familyOrphansUptoCard

/-- THE SECOND FORM's CARD OF 'halterlaw16.PathSplits'. -/
def pathSplitsUptoCard : Claim7 := { stood := { row := pathSplitsUptoRow, standIns := [], harness := (true, "5b78e904ddc4a8d94f585d3cf8dc0d5fb0c1859549ea26c061ba15a1e60c9b40"), looks := true }, kinds := [], alts := [], laidByText := true, laidKinds := [.data, .handle, .pinned], laidTests := true, laidLooks := .later }
def PathSplitsUptoCardSaid : Prop := Claim7.holds Tryd.pinned (.plain (OpenSpec.upto pathSplitsSpec)) pathSplitsUptoCard

/-- THE SECOND FORM's CARD OF 'halterlaw16.PathBack'. -/
def pathBackUptoCard : Claim7 := { stood := { row := pathBackUptoRow, standIns := [], harness := (true, "5b78e904ddc4a8d94f585d3cf8dc0d5fb0c1859549ea26c061ba15a1e60c9b40"), looks := true }, kinds := [], alts := [], laidByText := true, laidKinds := [.data, .handle, .pinned], laidTests := true, laidLooks := .later }
def PathBackUptoCardSaid : Prop := Claim7.holds Tryd.pinned (.plain (OpenSpec.upto pathBackSpec)) pathBackUptoCard

/-- THE SECOND FORM's CARD OF 'halterlaw16.PathLasts'. -/
def pathLastsUptoCard : Claim7 := { stood := { row := pathLastsUptoRow, standIns := [], harness := (true, "5b78e904ddc4a8d94f585d3cf8dc0d5fb0c1859549ea26c061ba15a1e60c9b40"), looks := true }, kinds := [], alts := [], laidByText := true, laidKinds := [.data, .handle, .pinned], laidTests := true, laidLooks := .later }
def PathLastsUptoCardSaid : Prop := Claim7.holds Tryd.pinned (.plain (OpenSpec.upto pathLastsSpec)) pathLastsUptoCard
end Rows
end Go.Proofs.YtepjcfhkbcchmaaDoor
