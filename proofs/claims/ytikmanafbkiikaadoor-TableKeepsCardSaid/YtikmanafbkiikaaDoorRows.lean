/-
  NARROWER THAN 'FOR EVERY INPUT', by the rows' own cells (each row's printed sentence says how): PhysKeeps: laid · PhysApart: laid · PhysRuns: laid · TableRuns: laid · TableKeeps: laid · RegionCuts: laid · RegionHoles: laid · RegionAdds: laid.
  DERIVED. THE GIVEN ROWS OF THIS SEAT. 8 by the template 'for every input the law returns true; each argument reads behind the call as it read before'; 0 by the template 'total and deterministic' (their statements: YtikmanafbkiikaaDoorTotals.lean).
  GIVEN WITH THE SEED: the statements are not yours to turn. If you find one false, say at which input.
  Laid BY PROGRAM, IN A SANDBOX (cutbox-rows.mjs): the forced cells as the released guide's own fill.sh prints them over the translation cbf9e16c55027de2… (all of the seat's roots in one cut). By AI agents, Wed Nov 11 2026. No macro, syntax, notation, axiom, sorry.
-/
import Derived.Test.YtikmanafbkiikaaDoorChecked
import GoSem.Claim
import GoSem.ClaimJoined
import GoSem.ClaimMapViews
import Derived.JoinedTies
import Derived.KernelRfl
namespace Go.Proofs.YtikmanafbkiikaaDoor
/- THE CELL 'sum', in the pinned program and in every row, IS THE sha256 OF THE DUMP (.gsa) THAT YtikmanafbkiikaaDoorProg.lean LOADS. Nothing in Lean hashes anything: it is a label: what it is worth is what the hold of that sum in a sandbox is worth. -/
noncomputable def Tryd.pinned : Pinned := { name := "ytikmanafbkiikaadoor", sum := "cbf9e16c55027de2319580b670f1d9bdfa8662ba7d386dde587169c30b056262", checked := Tryd.checked }
namespace Rows
def none {H : Type} : Left H := { results := [], args := [] }

/- WHAT THE LISTED PACKAGE-LEVEL VARIABLES READ AS WHEN THE CALL BEGINS. Each datum BY PROGRAM (the guide's laid-datum.mjs) off the statement by which the dump's own 'gosem.cut.vars' lays the variable. In a bare row this is a premise. The card (YtikmanafbkiikaaDoorCards.lean) ties it to the program's text. -/
def laid_errors_errorType {H : Type} : DataW H := .iface "internal/reflectlite.rtype" (.agg [.ptr (.lit (.string [101, 114, 114, 111, 114]))])

/-- 'halterlaw05.PhysKeeps': WHATEVER THE INPUT: true; the input reads as it did. -/
def physKeepsSpec : ChangeSpec := { name := "physKeeps", fn := fun _ => fun
  | [d] => { results := [.lit (.bool true)], args := [d] }
  | _ => none }
def physKeepsRow : OpenClaim := { program := "ytikmanafbkiikaadoor", sum := "cbf9e16c55027de2319580b670f1d9bdfa8662ba7d386dde587169c30b056262", func := "halter/halterlaw05.PhysKeeps", spec := "physKeeps", inPlace := ["internal/reflectlite.ValueOf", "(internal/reflectlite.Value).Type", "(internal/reflectlite.Value).IsNil", "internal/reflectlite.TypeOf", "(internal/reflectlite.Value).Elem", "(internal/reflectlite.Value).Set"], unfollowed := true, recurses := true, named := ["errors.errorType"], apart := false, laid := [("errors.errorType", laid_errors_errorType)] }
def PhysKeepsSaid : Prop := physKeepsRow.holds Tryd.pinned (OpenSpec.ofChange physKeepsSpec)

/-- ITS FALSE NEIGHBOUR: 'it returns false'. Refute it at one input. -/
def physKeepsWrong : ChangeSpec := { name := "physKeeps", fn := fun _ => fun
  | [d] => { results := [.lit (.bool false)], args := [d] }
  | _ => none }
def PhysKeepsWrongFalsely : Prop := physKeepsRow.holds Tryd.pinned (OpenSpec.ofChange physKeepsWrong)

/-- 'halterlaw05.PhysApart': WHATEVER THE INPUT: true; the input reads as it did. -/
def physApartSpec : ChangeSpec := { name := "physApart", fn := fun _ => fun
  | [d1, d2, d3] => { results := [.lit (.bool true)], args := [d1, d2, d3] }
  | _ => none }
def physApartRow : OpenClaim := { program := "ytikmanafbkiikaadoor", sum := "cbf9e16c55027de2319580b670f1d9bdfa8662ba7d386dde587169c30b056262", func := "halter/halterlaw05.PhysApart", spec := "physApart", inPlace := ["internal/reflectlite.ValueOf", "(internal/reflectlite.Value).Type", "(internal/reflectlite.Value).IsNil", "internal/reflectlite.TypeOf", "(internal/reflectlite.Value).Elem", "(internal/reflectlite.Value).Set"], unfollowed := true, recurses := true, named := ["errors.errorType"], apart := false, laid := [("errors.errorType", laid_errors_errorType)] }
def PhysApartSaid : Prop := physApartRow.holds Tryd.pinned (OpenSpec.ofChange physApartSpec)

/-- ITS FALSE NEIGHBOUR: 'it returns false'. Refute it at one input. -/
def physApartWrong : ChangeSpec := { name := "physApart", fn := fun _ => fun
  | [d1, d2, d3] => { results := [.lit (.bool false)], args := [d1, d2, d3] }
  | _ => none }
def PhysApartWrongFalsely : Prop := physApartRow.holds Tryd.pinned (OpenSpec.ofChange physApartWrong)

/-- 'halterlaw05.PhysRuns': WHATEVER THE INPUT: true; the input reads as it did. -/
def physRunsSpec : ChangeSpec := { name := "physRuns", fn := fun _ => fun
  | [d1, d2] => { results := [.lit (.bool true)], args := [d1, d2] }
  | _ => none }
def physRunsRow : OpenClaim := { program := "ytikmanafbkiikaadoor", sum := "cbf9e16c55027de2319580b670f1d9bdfa8662ba7d386dde587169c30b056262", func := "halter/halterlaw05.PhysRuns", spec := "physRuns", inPlace := ["internal/reflectlite.ValueOf", "(internal/reflectlite.Value).Type", "(internal/reflectlite.Value).IsNil", "internal/reflectlite.TypeOf", "(internal/reflectlite.Value).Elem", "(internal/reflectlite.Value).Set"], unfollowed := true, recurses := true, named := ["errors.errorType"], apart := false, laid := [("errors.errorType", laid_errors_errorType)] }
def PhysRunsSaid : Prop := physRunsRow.holds Tryd.pinned (OpenSpec.ofChange physRunsSpec)

/-- ITS FALSE NEIGHBOUR: 'it returns false'. Refute it at one input. -/
def physRunsWrong : ChangeSpec := { name := "physRuns", fn := fun _ => fun
  | [d1, d2] => { results := [.lit (.bool false)], args := [d1, d2] }
  | _ => none }
def PhysRunsWrongFalsely : Prop := physRunsRow.holds Tryd.pinned (OpenSpec.ofChange physRunsWrong)

/-- 'halterlaw07.TableRuns': WHATEVER THE INPUT: true; the input reads as it did. -/
def tableRunsSpec : ChangeSpec := { name := "tableRuns", fn := fun _ => fun
  | [d1, d2] => { results := [.lit (.bool true)], args := [d1, d2] }
  | _ => none }
def tableRunsRow : OpenClaim := { program := "ytikmanafbkiikaadoor", sum := "cbf9e16c55027de2319580b670f1d9bdfa8662ba7d386dde587169c30b056262", func := "halter/halterlaw07.TableRuns", spec := "tableRuns", inPlace := ["internal/reflectlite.ValueOf", "(internal/reflectlite.Value).Type", "(internal/reflectlite.Value).IsNil", "internal/reflectlite.TypeOf", "(internal/reflectlite.Value).Elem", "(internal/reflectlite.Value).Set"], unfollowed := true, recurses := true, named := ["errors.errorType"], apart := false, laid := [("errors.errorType", laid_errors_errorType)] }
def TableRunsSaid : Prop := tableRunsRow.holds Tryd.pinned (OpenSpec.ofChange tableRunsSpec)

/-- ITS FALSE NEIGHBOUR: 'it returns false'. Refute it at one input. -/
def tableRunsWrong : ChangeSpec := { name := "tableRuns", fn := fun _ => fun
  | [d1, d2] => { results := [.lit (.bool false)], args := [d1, d2] }
  | _ => none }
def TableRunsWrongFalsely : Prop := tableRunsRow.holds Tryd.pinned (OpenSpec.ofChange tableRunsWrong)

/-- 'halterlaw07.TableKeeps': WHATEVER THE INPUT: true; the input reads as it did. -/
def tableKeepsSpec : ChangeSpec := { name := "tableKeeps", fn := fun _ => fun
  | [d] => { results := [.lit (.bool true)], args := [d] }
  | _ => none }
def tableKeepsRow : OpenClaim := { program := "ytikmanafbkiikaadoor", sum := "cbf9e16c55027de2319580b670f1d9bdfa8662ba7d386dde587169c30b056262", func := "halter/halterlaw07.TableKeeps", spec := "tableKeeps", inPlace := ["internal/reflectlite.ValueOf", "(internal/reflectlite.Value).Type", "(internal/reflectlite.Value).IsNil", "internal/reflectlite.TypeOf", "(internal/reflectlite.Value).Elem", "(internal/reflectlite.Value).Set"], unfollowed := true, recurses := true, named := ["errors.errorType"], apart := false, laid := [("errors.errorType", laid_errors_errorType)] }
def TableKeepsSaid : Prop := tableKeepsRow.holds Tryd.pinned (OpenSpec.ofChange tableKeepsSpec)

/-- ITS FALSE NEIGHBOUR: 'it returns false'. Refute it at one input. -/
def tableKeepsWrong : ChangeSpec := { name := "tableKeeps", fn := fun _ => fun
  | [d] => { results := [.lit (.bool false)], args := [d] }
  | _ => none }
def TableKeepsWrongFalsely : Prop := tableKeepsRow.holds Tryd.pinned (OpenSpec.ofChange tableKeepsWrong)

/-- 'halterlaw13.RegionCuts': WHATEVER THE INPUT: true; the input reads as it did. -/
def regionCutsSpec : ChangeSpec := { name := "regionCuts", fn := fun _ => fun
  | [d1, d2, d3] => { results := [.lit (.bool true)], args := [d1, d2, d3] }
  | _ => none }
def regionCutsRow : OpenClaim := { program := "ytikmanafbkiikaadoor", sum := "cbf9e16c55027de2319580b670f1d9bdfa8662ba7d386dde587169c30b056262", func := "halter/halterlaw13.RegionCuts", spec := "regionCuts", inPlace := ["internal/reflectlite.ValueOf", "(internal/reflectlite.Value).Type", "(internal/reflectlite.Value).IsNil", "internal/reflectlite.TypeOf", "(internal/reflectlite.Value).Elem", "(internal/reflectlite.Value).Set"], unfollowed := true, recurses := true, named := ["errors.errorType"], apart := false, laid := [("errors.errorType", laid_errors_errorType)] }
def RegionCutsSaid : Prop := regionCutsRow.holds Tryd.pinned (OpenSpec.ofChange regionCutsSpec)

/-- ITS FALSE NEIGHBOUR: 'it returns false'. Refute it at one input. -/
def regionCutsWrong : ChangeSpec := { name := "regionCuts", fn := fun _ => fun
  | [d1, d2, d3] => { results := [.lit (.bool false)], args := [d1, d2, d3] }
  | _ => none }
def RegionCutsWrongFalsely : Prop := regionCutsRow.holds Tryd.pinned (OpenSpec.ofChange regionCutsWrong)

/-- 'halterlaw13.RegionHoles': WHATEVER THE INPUT: true; the input reads as it did. -/
def regionHolesSpec : ChangeSpec := { name := "regionHoles", fn := fun _ => fun
  | [d1, d2] => { results := [.lit (.bool true)], args := [d1, d2] }
  | _ => none }
def regionHolesRow : OpenClaim := { program := "ytikmanafbkiikaadoor", sum := "cbf9e16c55027de2319580b670f1d9bdfa8662ba7d386dde587169c30b056262", func := "halter/halterlaw13.RegionHoles", spec := "regionHoles", inPlace := ["internal/reflectlite.ValueOf", "(internal/reflectlite.Value).Type", "(internal/reflectlite.Value).IsNil", "internal/reflectlite.TypeOf", "(internal/reflectlite.Value).Elem", "(internal/reflectlite.Value).Set"], unfollowed := true, recurses := true, named := ["errors.errorType"], apart := false, laid := [("errors.errorType", laid_errors_errorType)] }
def RegionHolesSaid : Prop := regionHolesRow.holds Tryd.pinned (OpenSpec.ofChange regionHolesSpec)

/-- ITS FALSE NEIGHBOUR: 'it returns false'. Refute it at one input. -/
def regionHolesWrong : ChangeSpec := { name := "regionHoles", fn := fun _ => fun
  | [d1, d2] => { results := [.lit (.bool false)], args := [d1, d2] }
  | _ => none }
def RegionHolesWrongFalsely : Prop := regionHolesRow.holds Tryd.pinned (OpenSpec.ofChange regionHolesWrong)

/-- 'halterlaw13.RegionAdds': WHATEVER THE INPUT: true; the input reads as it did. -/
def regionAddsSpec : ChangeSpec := { name := "regionAdds", fn := fun _ => fun
  | [d1, d2, d3] => { results := [.lit (.bool true)], args := [d1, d2, d3] }
  | _ => none }
def regionAddsRow : OpenClaim := { program := "ytikmanafbkiikaadoor", sum := "cbf9e16c55027de2319580b670f1d9bdfa8662ba7d386dde587169c30b056262", func := "halter/halterlaw13.RegionAdds", spec := "regionAdds", inPlace := ["internal/reflectlite.ValueOf", "(internal/reflectlite.Value).Type", "(internal/reflectlite.Value).IsNil", "internal/reflectlite.TypeOf", "(internal/reflectlite.Value).Elem", "(internal/reflectlite.Value).Set"], unfollowed := true, recurses := true, named := ["errors.errorType"], apart := false, laid := [("errors.errorType", laid_errors_errorType)] }
def RegionAddsSaid : Prop := regionAddsRow.holds Tryd.pinned (OpenSpec.ofChange regionAddsSpec)

/-- ITS FALSE NEIGHBOUR: 'it returns false'. Refute it at one input. -/
def regionAddsWrong : ChangeSpec := { name := "regionAdds", fn := fun _ => fun
  | [d1, d2, d3] => { results := [.lit (.bool false)], args := [d1, d2, d3] }
  | _ => none }
def RegionAddsWrongFalsely : Prop := regionAddsRow.holds Tryd.pinned (OpenSpec.ofChange regionAddsWrong)

/- THE SECOND FORM. 'bulk': how many values and letters a reading holds, each counted each time it is reached (what is shared counts as often as it is met; a slice's spare places count too). A statement '..UptoSaid' is the law's where the arguments, and the package variables that the reading takes, are together of bulk at most 1048576: NARROWER than '..Said'. Prove '..Said' where nothing that the law and all that it calls make is longer than what came in: it says more and counts as full. Else prove '..UptoSaid'. A law counts once. -/
mutual
def uptoBulk {H : Type} : DataW H → Nat
  | .lit (.string bytes) => bytes.length + 1
  | .lit _ => 1
  | .nil => 1
  | .ptr d => uptoBulk d + 1
  | .slice elems spare => uptoBulkAll elems + uptoBulkAll spare + 1
  | .agg parts => uptoBulkAll parts + 1
  | .iface _ d => uptoBulk d + 1
  | .map entries => uptoBulkEntries entries + 1
  | .held _ => 1
def uptoBulkAll {H : Type} : List (DataW H) → Nat
  | [] => 0
  | d :: r => uptoBulk d + uptoBulkAll r
def uptoBulkEntries {H : Type} : List (Lit × DataW H) → Nat
  | [] => 0
  | x :: r => uptoBulkEntry x + uptoBulkEntries r
def uptoBulkEntry {H : Type} : Lit × DataW H → Nat
  | (.string bytes, d) => bytes.length + uptoBulk d + 1
  | (_, d) => uptoBulk d + 1
 end
def uptoSmall : (H : Type) → List (DataW H) → Bool := fun _ ds => decide (uptoBulkAll ds ≤ 1048576)
def OpenSpec.upto (s : _root_.Go.ChangeSpec) : _root_.Go.OpenSpec := { _root_.Go.OpenSpec.ofChange s with cond := some uptoSmall }

/-- 'halterlaw05.PhysKeeps', WHERE WHAT IT READS IS OF BULK AT MOST 1048576: true; the input reads as it did. -/
def physKeepsUptoRow : OpenClaim := { program := "ytikmanafbkiikaadoor", sum := "cbf9e16c55027de2319580b670f1d9bdfa8662ba7d386dde587169c30b056262", func := "halter/halterlaw05.PhysKeeps", spec := "physKeeps", inPlace := ["internal/reflectlite.ValueOf", "(internal/reflectlite.Value).Type", "(internal/reflectlite.Value).IsNil", "internal/reflectlite.TypeOf", "(internal/reflectlite.Value).Elem", "(internal/reflectlite.Value).Set"], unfollowed := true, recurses := true, named := ["errors.errorType"], apart := false, laid := [("errors.errorType", laid_errors_errorType)], narrowed := true }
def PhysKeepsUptoSaid : Prop := physKeepsUptoRow.holds Tryd.pinned (OpenSpec.upto physKeepsSpec)

/-- 'halterlaw05.PhysApart', WHERE WHAT IT READS IS OF BULK AT MOST 1048576: true; the input reads as it did. -/
def physApartUptoRow : OpenClaim := { program := "ytikmanafbkiikaadoor", sum := "cbf9e16c55027de2319580b670f1d9bdfa8662ba7d386dde587169c30b056262", func := "halter/halterlaw05.PhysApart", spec := "physApart", inPlace := ["internal/reflectlite.ValueOf", "(internal/reflectlite.Value).Type", "(internal/reflectlite.Value).IsNil", "internal/reflectlite.TypeOf", "(internal/reflectlite.Value).Elem", "(internal/reflectlite.Value).Set"], unfollowed := true, recurses := true, named := ["errors.errorType"], apart := false, laid := [("errors.errorType", laid_errors_errorType)], narrowed := true }
def PhysApartUptoSaid : Prop := physApartUptoRow.holds Tryd.pinned (OpenSpec.upto physApartSpec)

/-- 'halterlaw05.PhysRuns', WHERE WHAT IT READS IS OF BULK AT MOST 1048576: true; the input reads as it did. -/
def physRunsUptoRow : OpenClaim := { program := "ytikmanafbkiikaadoor", sum := "cbf9e16c55027de2319580b670f1d9bdfa8662ba7d386dde587169c30b056262", func := "halter/halterlaw05.PhysRuns", spec := "physRuns", inPlace := ["internal/reflectlite.ValueOf", "(internal/reflectlite.Value).Type", "(internal/reflectlite.Value).IsNil", "internal/reflectlite.TypeOf", "(internal/reflectlite.Value).Elem", "(internal/reflectlite.Value).Set"], unfollowed := true, recurses := true, named := ["errors.errorType"], apart := false, laid := [("errors.errorType", laid_errors_errorType)], narrowed := true }
def PhysRunsUptoSaid : Prop := physRunsUptoRow.holds Tryd.pinned (OpenSpec.upto physRunsSpec)

/-- 'halterlaw07.TableRuns', WHERE WHAT IT READS IS OF BULK AT MOST 1048576: true; the input reads as it did. -/
def tableRunsUptoRow : OpenClaim := { program := "ytikmanafbkiikaadoor", sum := "cbf9e16c55027de2319580b670f1d9bdfa8662ba7d386dde587169c30b056262", func := "halter/halterlaw07.TableRuns", spec := "tableRuns", inPlace := ["internal/reflectlite.ValueOf", "(internal/reflectlite.Value).Type", "(internal/reflectlite.Value).IsNil", "internal/reflectlite.TypeOf", "(internal/reflectlite.Value).Elem", "(internal/reflectlite.Value).Set"], unfollowed := true, recurses := true, named := ["errors.errorType"], apart := false, laid := [("errors.errorType", laid_errors_errorType)], narrowed := true }
def TableRunsUptoSaid : Prop := tableRunsUptoRow.holds Tryd.pinned (OpenSpec.upto tableRunsSpec)

/-- 'halterlaw07.TableKeeps', WHERE WHAT IT READS IS OF BULK AT MOST 1048576: true; the input reads as it did. -/
def tableKeepsUptoRow : OpenClaim := { program := "ytikmanafbkiikaadoor", sum := "cbf9e16c55027de2319580b670f1d9bdfa8662ba7d386dde587169c30b056262", func := "halter/halterlaw07.TableKeeps", spec := "tableKeeps", inPlace := ["internal/reflectlite.ValueOf", "(internal/reflectlite.Value).Type", "(internal/reflectlite.Value).IsNil", "internal/reflectlite.TypeOf", "(internal/reflectlite.Value).Elem", "(internal/reflectlite.Value).Set"], unfollowed := true, recurses := true, named := ["errors.errorType"], apart := false, laid := [("errors.errorType", laid_errors_errorType)], narrowed := true }
def TableKeepsUptoSaid : Prop := tableKeepsUptoRow.holds Tryd.pinned (OpenSpec.upto tableKeepsSpec)

/-- 'halterlaw13.RegionCuts', WHERE WHAT IT READS IS OF BULK AT MOST 1048576: true; the input reads as it did. -/
def regionCutsUptoRow : OpenClaim := { program := "ytikmanafbkiikaadoor", sum := "cbf9e16c55027de2319580b670f1d9bdfa8662ba7d386dde587169c30b056262", func := "halter/halterlaw13.RegionCuts", spec := "regionCuts", inPlace := ["internal/reflectlite.ValueOf", "(internal/reflectlite.Value).Type", "(internal/reflectlite.Value).IsNil", "internal/reflectlite.TypeOf", "(internal/reflectlite.Value).Elem", "(internal/reflectlite.Value).Set"], unfollowed := true, recurses := true, named := ["errors.errorType"], apart := false, laid := [("errors.errorType", laid_errors_errorType)], narrowed := true }
def RegionCutsUptoSaid : Prop := regionCutsUptoRow.holds Tryd.pinned (OpenSpec.upto regionCutsSpec)

/-- 'halterlaw13.RegionHoles', WHERE WHAT IT READS IS OF BULK AT MOST 1048576: true; the input reads as it did. -/
def regionHolesUptoRow : OpenClaim := { program := "ytikmanafbkiikaadoor", sum := "cbf9e16c55027de2319580b670f1d9bdfa8662ba7d386dde587169c30b056262", func := "halter/halterlaw13.RegionHoles", spec := "regionHoles", inPlace := ["internal/reflectlite.ValueOf", "(internal/reflectlite.Value).Type", "(internal/reflectlite.Value).IsNil", "internal/reflectlite.TypeOf", "(internal/reflectlite.Value).Elem", "(internal/reflectlite.Value).Set"], unfollowed := true, recurses := true, named := ["errors.errorType"], apart := false, laid := [("errors.errorType", laid_errors_errorType)], narrowed := true }
def RegionHolesUptoSaid : Prop := regionHolesUptoRow.holds Tryd.pinned (OpenSpec.upto regionHolesSpec)

/-- 'halterlaw13.RegionAdds', WHERE WHAT IT READS IS OF BULK AT MOST 1048576: true; the input reads as it did. -/
def regionAddsUptoRow : OpenClaim := { program := "ytikmanafbkiikaadoor", sum := "cbf9e16c55027de2319580b670f1d9bdfa8662ba7d386dde587169c30b056262", func := "halter/halterlaw13.RegionAdds", spec := "regionAdds", inPlace := ["internal/reflectlite.ValueOf", "(internal/reflectlite.Value).Type", "(internal/reflectlite.Value).IsNil", "internal/reflectlite.TypeOf", "(internal/reflectlite.Value).Elem", "(internal/reflectlite.Value).Set"], unfollowed := true, recurses := true, named := ["errors.errorType"], apart := false, laid := [("errors.errorType", laid_errors_errorType)], narrowed := true }
def RegionAddsUptoSaid : Prop := regionAddsUptoRow.holds Tryd.pinned (OpenSpec.upto regionAddsSpec)

end Rows
end Go.Proofs.YtikmanafbkiikaaDoor
