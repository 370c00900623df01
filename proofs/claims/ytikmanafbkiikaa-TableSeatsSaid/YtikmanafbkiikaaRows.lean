/-
  No cell of these rows narrows 'for every input' (looked for: loops, veiled, ifaces, maps, wideKeys, modest, calm, conditions, laid).
  DERIVED. THE GIVEN ROWS OF THIS SEAT. 3 by the template 'for every input the law returns true; each argument reads behind the call as it read before'; 0 by the template 'total and deterministic' (their statements: YtikmanafbkiikaaTotals.lean).
  GIVEN WITH THE SEED: the statements are not yours to turn. If you find one false, say at which input.
  Laid BY PROGRAM, IN A SANDBOX (cutbox-rows.mjs): the forced cells as the released guide's own fill.sh prints them over the translation 2e898ce1597f0bcd… (all of the seat's roots in one cut). By AI agents, Wed Nov 11 2026. No macro, syntax, notation, axiom, sorry.
-/
import Derived.Test.YtikmanafbkiikaaChecked
import GoSem.Claim
import GoSem.ClaimJoined
import GoSem.ClaimMapViews
import Derived.JoinedTies
import Derived.KernelRfl
namespace Go.Proofs.Ytikmanafbkiikaa
/- THE CELL 'sum', in the pinned program and in every row, IS THE sha256 OF THE DUMP (.gsa) THAT YtikmanafbkiikaaProg.lean LOADS. Nothing in Lean hashes anything: it is a label: what it is worth is what the hold of that sum in a sandbox is worth. -/
noncomputable def Try.pinned : Pinned := { name := "ytikmanafbkiikaa", sum := "2e898ce1597f0bcd2bf94850a6ae810354a262c4ff21445d01ce310c339a2b9d", checked := Try.checked }
namespace Rows
def none {H : Type} : Left H := { results := [], args := [] }

/-- 'halterlaw07.TableSeats': WHATEVER THE INPUT: true; the input reads as it did. -/
def tableSeatsSpec : ChangeSpec := { name := "tableSeats", fn := fun _ => fun
  | [d1, d2] => { results := [.lit (.bool true)], args := [d1, d2] }
  | _ => none }
def tableSeatsRow : OpenClaim := { program := "ytikmanafbkiikaa", sum := "2e898ce1597f0bcd2bf94850a6ae810354a262c4ff21445d01ce310c339a2b9d", func := "halter/halterlaw07.TableSeats", spec := "tableSeats", unfollowed := true, recurses := true, apart := false }
def TableSeatsSaid : Prop := tableSeatsRow.holds Try.pinned (OpenSpec.ofChange tableSeatsSpec)

/-- ITS FALSE NEIGHBOUR: 'it returns false'. Refute it at one input. -/
def tableSeatsWrong : ChangeSpec := { name := "tableSeats", fn := fun _ => fun
  | [d1, d2] => { results := [.lit (.bool false)], args := [d1, d2] }
  | _ => none }
def TableSeatsWrongFalsely : Prop := tableSeatsRow.holds Try.pinned (OpenSpec.ofChange tableSeatsWrong)

/-- 'halterlaw13.RegionKeeps': WHATEVER THE INPUT: true; the input reads as it did. -/
def regionKeepsSpec : ChangeSpec := { name := "regionKeeps", fn := fun _ => fun
  | [d1, d2] => { results := [.lit (.bool true)], args := [d1, d2] }
  | _ => none }
def regionKeepsRow : OpenClaim := { program := "ytikmanafbkiikaa", sum := "2e898ce1597f0bcd2bf94850a6ae810354a262c4ff21445d01ce310c339a2b9d", func := "halter/halterlaw13.RegionKeeps", spec := "regionKeeps", unfollowed := true, recurses := true, apart := false }
def RegionKeepsSaid : Prop := regionKeepsRow.holds Try.pinned (OpenSpec.ofChange regionKeepsSpec)

/-- ITS FALSE NEIGHBOUR: 'it returns false'. Refute it at one input. -/
def regionKeepsWrong : ChangeSpec := { name := "regionKeeps", fn := fun _ => fun
  | [d1, d2] => { results := [.lit (.bool false)], args := [d1, d2] }
  | _ => none }
def RegionKeepsWrongFalsely : Prop := regionKeepsRow.holds Try.pinned (OpenSpec.ofChange regionKeepsWrong)

/-- 'halterlaw13.RegionSizes': WHATEVER THE INPUT: true; the input reads as it did. -/
def regionSizesSpec : ChangeSpec := { name := "regionSizes", fn := fun _ => fun
  | [d1, d2] => { results := [.lit (.bool true)], args := [d1, d2] }
  | _ => none }
def regionSizesRow : OpenClaim := { program := "ytikmanafbkiikaa", sum := "2e898ce1597f0bcd2bf94850a6ae810354a262c4ff21445d01ce310c339a2b9d", func := "halter/halterlaw13.RegionSizes", spec := "regionSizes", unfollowed := true, recurses := true, apart := false }
def RegionSizesSaid : Prop := regionSizesRow.holds Try.pinned (OpenSpec.ofChange regionSizesSpec)

/-- ITS FALSE NEIGHBOUR: 'it returns false'. Refute it at one input. -/
def regionSizesWrong : ChangeSpec := { name := "regionSizes", fn := fun _ => fun
  | [d1, d2] => { results := [.lit (.bool false)], args := [d1, d2] }
  | _ => none }
def RegionSizesWrongFalsely : Prop := regionSizesRow.holds Try.pinned (OpenSpec.ofChange regionSizesWrong)

/- THE SECOND FORM. 'bulk': how many values and letters a reading holds, each counted each time it is reached (what is shared counts as often as it is met; a slice's spare places count too). A statement '..UptoSaid' is the law's where the arguments, and the package variables that the reading takes, are together of bulk at most 1048576: NARROWER than '..Said'. Prove '..Said' where nothing that the law and all that it calls make is longer than what came in: it says more and counts as full. Else prove '..UptoSaid'. A law counts once. -/
mutual
def uptoBulk {H : Type} : DataW H → Nat
  | .lit (.string bytes) => bytes.length + 1
  | .lit _ => 1
  | .nil => 1
  | .ptr d => uptoBulk d + 1
  | .slice elems spare => uptoBulkAll elems + uptoBulkAll spare + 1
  | .agg parts => uptoBulkAll parts + 1
  | .iface _ d => uptoBulk d + 1
  | .map entries => uptoBulkEntries entries + 1
  | .held _ => 1
def uptoBulkAll {H : Type} : List (DataW H) → Nat
  | [] => 0
  | d :: r => uptoBulk d + uptoBulkAll r
def uptoBulkEntries {H : Type} : List (Lit × DataW H) → Nat
  | [] => 0
  | x :: r => uptoBulkEntry x + uptoBulkEntries r
def uptoBulkEntry {H : Type} : Lit × DataW H → Nat
  | (.string bytes, d) => bytes.length + uptoBulk d + 1
  | (_, d) => uptoBulk d + 1
 end
def uptoSmall : (H : Type) → List (DataW H) → Bool := fun _ ds => decide (uptoBulkAll ds ≤ 1048576)
def OpenSpec.upto (s : _root_.Go.ChangeSpec) : _root_.Go.OpenSpec := { _root_.Go.OpenSpec.ofChange s with cond := some uptoSmall }

/-- 'halterlaw07.TableSeats', WHERE WHAT IT READS IS OF BULK AT MOST 1048576: true; the input reads as it did. -/
def tableSeatsUptoRow : OpenClaim := { program := "ytikmanafbkiikaa", sum := "2e898ce1597f0bcd2bf94850a6ae810354a262c4ff21445d01ce310c339a2b9d", func := "halter/halterlaw07.TableSeats", spec := "tableSeats", unfollowed := true, recurses := true, apart := false, narrowed := true }
def TableSeatsUptoSaid : Prop := tableSeatsUptoRow.holds Try.pinned (OpenSpec.upto tableSeatsSpec)

/-- 'halterlaw13.RegionKeeps', WHERE WHAT IT READS IS OF BULK AT MOST 1048576: true; the input reads as it did. -/
def regionKeepsUptoRow : OpenClaim := { program := "ytikmanafbkiikaa", sum := "2e898ce1597f0bcd2bf94850a6ae810354a262c4ff21445d01ce310c339a2b9d", func := "halter/halterlaw13.RegionKeeps", spec := "regionKeeps", unfollowed := true, recurses := true, apart := false, narrowed := true }
def RegionKeepsUptoSaid : Prop := regionKeepsUptoRow.holds Try.pinned (OpenSpec.upto regionKeepsSpec)

/-- 'halterlaw13.RegionSizes', WHERE WHAT IT READS IS OF BULK AT MOST 1048576: true; the input reads as it did. -/
def regionSizesUptoRow : OpenClaim := { program := "ytikmanafbkiikaa", sum := "2e898ce1597f0bcd2bf94850a6ae810354a262c4ff21445d01ce310c339a2b9d", func := "halter/halterlaw13.RegionSizes", spec := "regionSizes", unfollowed := true, recurses := true, apart := false, narrowed := true }
def RegionSizesUptoSaid : Prop := regionSizesUptoRow.holds Try.pinned (OpenSpec.upto regionSizesSpec)

end Rows
end Go.Proofs.Ytikmanafbkiikaa
