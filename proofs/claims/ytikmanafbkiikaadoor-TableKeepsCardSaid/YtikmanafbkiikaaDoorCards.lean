/-
  DERIVED. GIVEN WITH THE SEED: THE CARDS: each row of YtikmanafbkiikaaDoorRows.lean that lists a variable, with what it lists TIED to the program's text (the seventh form; the later family's looks); each row that meets fmt, with fmt's text TOLD by the authors' own Lean function (tested against real Go, not proved from fmt's source: count such statements apart). THE CARD IS WHAT COUNTS. Prove the row's statement (the work); the ties are given (YtikmanafbkiikaaDoorTie.lean); close each card by the builder's one call (the guide's Derived/Test/ToyasCard.lean, 'card_holds'). Laid BY PROGRAM, IN A SANDBOX (cutbox-door.mjs). By AI agents, Wed Nov 11 2026. No macro, syntax, notation, axiom, sorry.
-/
import Derived.Test.YtikmanafbkiikaaDoorRows
import GoSem.ClaimSeven
namespace Go.Proofs.YtikmanafbkiikaaDoor
namespace Rows

/-- THE TIED CARD OF 'halterlaw05.PhysKeeps'. -/
def physKeepsCard : Claim7 := { stood := { row := physKeepsRow, standIns := [], harness := (true, "1c71236702401964a5aedc3f31a2c8d0874dce75557bfb2ccd9da9180a9956eb"), looks := true }, kinds := [], alts := [], laidByText := true, laidKinds := [.handle], laidTests := true, laidLooks := .later }
def PhysKeepsCardSaid : Prop := Claim7.holds Tryd.pinned (.plain (OpenSpec.ofChange physKeepsSpec)) physKeepsCard

/-- THE TIED CARD OF 'halterlaw05.PhysApart'. -/
def physApartCard : Claim7 := { stood := { row := physApartRow, standIns := [], harness := (true, "1c71236702401964a5aedc3f31a2c8d0874dce75557bfb2ccd9da9180a9956eb"), looks := true }, kinds := [], alts := [], laidByText := true, laidKinds := [.handle], laidTests := true, laidLooks := .later }
def PhysApartCardSaid : Prop := Claim7.holds Tryd.pinned (.plain (OpenSpec.ofChange physApartSpec)) physApartCard

/-- THE TIED CARD OF 'halterlaw05.PhysRuns'. -/
def physRunsCard : Claim7 := { stood := { row := physRunsRow, standIns := [], harness := (true, "1c71236702401964a5aedc3f31a2c8d0874dce75557bfb2ccd9da9180a9956eb"), looks := true }, kinds := [], alts := [], laidByText := true, laidKinds := [.handle], laidTests := true, laidLooks := .later }
def PhysRunsCardSaid : Prop := Claim7.holds Tryd.pinned (.plain (OpenSpec.ofChange physRunsSpec)) physRunsCard

/-- THE TIED CARD OF 'halterlaw07.TableRuns'. -/
def tableRunsCard : Claim7 := { stood := { row := tableRunsRow, standIns := [], harness := (true, "1c71236702401964a5aedc3f31a2c8d0874dce75557bfb2ccd9da9180a9956eb"), looks := true }, kinds := [], alts := [], laidByText := true, laidKinds := [.handle], laidTests := true, laidLooks := .later }
def TableRunsCardSaid : Prop := Claim7.holds Tryd.pinned (.plain (OpenSpec.ofChange tableRunsSpec)) tableRunsCard

/-- THE TIED CARD OF 'halterlaw07.TableKeeps'. -/
def tableKeepsCard : Claim7 := { stood := { row := tableKeepsRow, standIns := [], harness := (true, "1c71236702401964a5aedc3f31a2c8d0874dce75557bfb2ccd9da9180a9956eb"), looks := true }, kinds := [], alts := [], laidByText := true, laidKinds := [.handle], laidTests := true, laidLooks := .later }
def TableKeepsCardSaid : Prop := Claim7.holds Tryd.pinned (.plain (OpenSpec.ofChange tableKeepsSpec)) tableKeepsCard

/-- THE TIED CARD OF 'halterlaw13.RegionCuts'. -/
def regionCutsCard : Claim7 := { stood := { row := regionCutsRow, standIns := [], harness := (true, "1c71236702401964a5aedc3f31a2c8d0874dce75557bfb2ccd9da9180a9956eb"), looks := true }, kinds := [], alts := [], laidByText := true, laidKinds := [.handle], laidTests := true, laidLooks := .later }
def RegionCutsCardSaid : Prop := Claim7.holds Tryd.pinned (.plain (OpenSpec.ofChange regionCutsSpec)) regionCutsCard

/-- THE TIED CARD OF 'halterlaw13.RegionHoles'. -/
def regionHolesCard : Claim7 := { stood := { row := regionHolesRow, standIns := [], harness := (true, "1c71236702401964a5aedc3f31a2c8d0874dce75557bfb2ccd9da9180a9956eb"), looks := true }, kinds := [], alts := [], laidByText := true, laidKinds := [.handle], laidTests := true, laidLooks := .later }
def RegionHolesCardSaid : Prop := Claim7.holds Tryd.pinned (.plain (OpenSpec.ofChange regionHolesSpec)) regionHolesCard

/-- THE TIED CARD OF 'halterlaw13.RegionAdds'. -/
def regionAddsCard : Claim7 := { stood := { row := regionAddsRow, standIns := [], harness := (true, "1c71236702401964a5aedc3f31a2c8d0874dce75557bfb2ccd9da9180a9956eb"), looks := true }, kinds := [], alts := [], laidByText := true, laidKinds := [.handle], laidTests := true, laidLooks := .later }
def RegionAddsCardSaid : Prop := Claim7.holds Tryd.pinned (.plain (OpenSpec.ofChange regionAddsSpec)) regionAddsCard

/-- THE SECOND FORM's CARD OF 'halterlaw05.PhysKeeps'. -/
def physKeepsUptoCard : Claim7 := { stood := { row := physKeepsUptoRow, standIns := [], harness := (true, "1c71236702401964a5aedc3f31a2c8d0874dce75557bfb2ccd9da9180a9956eb"), looks := true }, kinds := [], alts := [], laidByText := true, laidKinds := [.handle], laidTests := true, laidLooks := .later }
def PhysKeepsUptoCardSaid : Prop := Claim7.holds Tryd.pinned (.plain (OpenSpec.upto physKeepsSpec)) physKeepsUptoCard

/-- THE SECOND FORM's CARD OF 'halterlaw05.PhysApart'. -/
def physApartUptoCard : Claim7 := { stood := { row := physApartUptoRow, standIns := [], harness := (true, "1c71236702401964a5aedc3f31a2c8d0874dce75557bfb2ccd9da9180a9956eb"), looks := true }, kinds := [], alts := [], laidByText := true, laidKinds := [.handle], laidTests := true, laidLooks := .later }
def PhysApartUptoCardSaid : Prop := Claim7.holds Tryd.pinned (.plain (OpenSpec.upto physApartSpec)) physApartUptoCard

/-- THE SECOND FORM's CARD OF 'halterlaw05.PhysRuns'. -/
def physRunsUptoCard : Claim7 := { stood := { row := physRunsUptoRow, standIns := [], harness := (true, "1c71236702401964a5aedc3f31a2c8d0874dce75557bfb2ccd9da9180a9956eb"), looks := true }, kinds := [], alts := [], laidByText := true, laidKinds := [.handle], laidTests := true, laidLooks := .later }
def PhysRunsUptoCardSaid : Prop := Claim7.holds Tryd.pinned (.plain (OpenSpec.upto physRunsSpec)) physRunsUptoCard

/-- THE SECOND FORM's CARD OF 'halterlaw07.TableRuns'. -/
def tableRunsUptoCard : Claim7 := { stood := { row := tableRunsUptoRow, standIns := [], harness := (true, "1c71236702401964a5aedc3f31a2c8d0874dce75557bfb2ccd9da9180a9956eb"), looks := true }, kinds := [], alts := [], laidByText := true, laidKinds := [.handle], laidTests := true, laidLooks := .later }
def TableRunsUptoCardSaid : Prop := Claim7.holds Tryd.pinned (.plain (OpenSpec.upto tableRunsSpec)) tableRunsUptoCard

/-- THE SECOND FORM's CARD OF 'halterlaw07.TableKeeps'. -/
def tableKeepsUptoCard : Claim7 := { stood := { row := tableKeepsUptoRow, standIns := [], harness := (true, "1c71236702401964a5aedc3f31a2c8d0874dce75557bfb2ccd9da9180a9956eb"), looks := true }, kinds := [], alts := [], laidByText := true, laidKinds := [.handle], laidTests := true, laidLooks := .later }
def TableKeepsUptoCardSaid : Prop := Claim7.holds Tryd.pinned (.plain (OpenSpec.upto tableKeepsSpec)) tableKeepsUptoCard

/-- THE SECOND FORM's CARD OF 'halterlaw13.RegionCuts'. -/
def regionCutsUptoCard : Claim7 := { stood := { row := regionCutsUptoRow, standIns := [], harness := (true, "1c71236702401964a5aedc3f31a2c8d0874dce75557bfb2ccd9da9180a9956eb"), looks := true }, kinds := [], alts := [], laidByText := true, laidKinds := [.handle], laidTests := true, laidLooks := .later }
def RegionCutsUptoCardSaid : Prop := Claim7.holds Tryd.pinned (.plain (OpenSpec.upto regionCutsSpec)) regionCutsUptoCard

/-- THE SECOND FORM's CARD OF 'halterlaw13.RegionHoles'. -/
def regionHolesUptoCard : Claim7 := { stood := { row := regionHolesUptoRow, standIns := [], harness := (true, "1c71236702401964a5aedc3f31a2c8d0874dce75557bfb2ccd9da9180a9956eb"), looks := true }, kinds := [], alts := [], laidByText := true, laidKinds := [.handle], laidTests := true, laidLooks := .later }
def RegionHolesUptoCardSaid : Prop := Claim7.holds Tryd.pinned (.plain (OpenSpec.upto regionHolesSpec)) regionHolesUptoCard

/-- THE SECOND FORM's CARD OF 'halterlaw13.RegionAdds'. -/
def regionAddsUptoCard : Claim7 := { stood := { row := regionAddsUptoRow, standIns := [], harness := (true, "1c71236702401964a5aedc3f31a2c8d0874dce75557bfb2ccd9da9180a9956eb"), looks := true }, kinds := [], alts := [], laidByText := true, laidKinds := [.handle], laidTests := true, laidLooks := .later }
def RegionAddsUptoCardSaid : Prop := Claim7.holds Tryd.pinned (.plain (OpenSpec.upto regionAddsSpec)) regionAddsUptoCard
end Rows
end Go.Proofs.YtikmanafbkiikaaDoor
