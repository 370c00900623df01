/-
  No cell of these rows narrows 'for every input' (looked for: loops, veiled, ifaces, maps, wideKeys, modest, calm, conditions, laid).
  DERIVED. THE GIVEN ROWS OF THIS SEAT. 2 by the template 'for every input the law returns true; each argument reads behind the call as it read before'; 0 by the template 'total and deterministic' (their statements: YtlhmnkhfobpjjaaTotals.lean).
  GIVEN WITH THE SEED: the statements are not yours to turn. If you find one false, say at which input.
  Laid BY PROGRAM, IN A SANDBOX (cutbox-rows.mjs): the forced cells as the released guide's own fill.sh prints them over the translation c3a292d4697ec405… (all of the seat's roots in one cut). By AI agents, Wed Nov 11 2026. No macro, syntax, notation, axiom, sorry.
-/
import Derived.Test.YtlhmnkhfobpjjaaChecked
import GoSem.Claim
import GoSem.ClaimJoined
import GoSem.ClaimMapViews
import Derived.JoinedTies
import Derived.KernelRfl
namespace Go.Proofs.Ytlhmnkhfobpjjaa
/- THE CELL 'sum', in the pinned program and in every row, IS THE sha256 OF THE DUMP (.gsa) THAT YtlhmnkhfobpjjaaProg.lean LOADS. Nothing in Lean hashes anything: it is a label: what it is worth is what the hold of that sum in a sandbox is worth. -/
noncomputable def Try.pinned : Pinned := { name := "ytlhmnkhfobpjjaa", sum := "c3a292d4697ec405fd0e00cb04ded0b6b606e2649ea21242c6119507c1e52cc0", checked := Try.checked }
namespace Rows
def none {H : Type} : Left H := { results := [], args := [] }

/-- 'halterlaw08.IsaParts': WHATEVER THE INPUT: true; the input reads as it did. -/
def isaPartsSpec : ChangeSpec := { name := "isaParts", fn := fun _ => fun
  | [d1, d2] => { results := [.lit (.bool true)], args := [d1, d2] }
  | _ => none }
def isaPartsRow : OpenClaim := { program := "ytlhmnkhfobpjjaa", sum := "c3a292d4697ec405fd0e00cb04ded0b6b606e2649ea21242c6119507c1e52cc0", func := "halter/halterlaw08.IsaParts", spec := "isaParts", apart := false }
def IsaPartsSaid : Prop := isaPartsRow.holds Try.pinned (OpenSpec.ofChange isaPartsSpec)

/-- ITS FALSE NEIGHBOUR: 'it returns false'. Refute it at one input. -/
def isaPartsWrong : ChangeSpec := { name := "isaParts", fn := fun _ => fun
  | [d1, d2] => { results := [.lit (.bool false)], args := [d1, d2] }
  | _ => none }
def IsaPartsWrongFalsely : Prop := isaPartsRow.holds Try.pinned (OpenSpec.ofChange isaPartsWrong)

/-- 'halterlaw06.EntryUses': WHATEVER THE INPUT: true; the input reads as it did. -/
def entryUsesSpec : ChangeSpec := { name := "entryUses", fn := fun _ => fun
  | [d1, d2] => { results := [.lit (.bool true)], args := [d1, d2] }
  | _ => none }
def entryUsesRow : OpenClaim := { program := "ytlhmnkhfobpjjaa", sum := "c3a292d4697ec405fd0e00cb04ded0b6b606e2649ea21242c6119507c1e52cc0", func := "halter/halterlaw06.EntryUses", spec := "entryUses", apart := false }
def EntryUsesSaid : Prop := entryUsesRow.holds Try.pinned (OpenSpec.ofChange entryUsesSpec)

/-- ITS FALSE NEIGHBOUR: 'it returns false'. Refute it at one input. -/
def entryUsesWrong : ChangeSpec := { name := "entryUses", fn := fun _ => fun
  | [d1, d2] => { results := [.lit (.bool false)], args := [d1, d2] }
  | _ => none }
def EntryUsesWrongFalsely : Prop := entryUsesRow.holds Try.pinned (OpenSpec.ofChange entryUsesWrong)

/- THE SECOND FORM. 'bulk': how many values and letters a reading holds, each counted each time it is reached (what is shared counts as often as it is met; a slice's spare places count too). A statement '..UptoSaid' is the law's where the arguments, and the package variables that the reading takes, are together of bulk at most 1048576: NARROWER than '..Said'. Prove '..Said' where nothing that the law and all that it calls make is longer than what came in: it says more and counts as full. Else prove '..UptoSaid'. A law counts once. -/
mutual
def uptoBulk {H : Type} : DataW H → Nat
  | .lit (.string bytes) => bytes.length + 1
  | .lit _ => 1
  | .nil => 1
  | .ptr d => uptoBulk d + 1
  | .slice elems spare => uptoBulkAll elems + uptoBulkAll spare + 1
  | .agg parts => uptoBulkAll parts + 1
  | .iface _ d => uptoBulk d + 1
  | .map entries => uptoBulkEntries entries + 1
  | .held _ => 1
def uptoBulkAll {H : Type} : List (DataW H) → Nat
  | [] => 0
  | d :: r => uptoBulk d + uptoBulkAll r
def uptoBulkEntries {H : Type} : List (Lit × DataW H) → Nat
  | [] => 0
  | x :: r => uptoBulkEntry x + uptoBulkEntries r
def uptoBulkEntry {H : Type} : Lit × DataW H → Nat
  | (.string bytes, d) => bytes.length + uptoBulk d + 1
  | (_, d) => uptoBulk d + 1
 end
def uptoSmall : (H : Type) → List (DataW H) → Bool := fun _ ds => decide (uptoBulkAll ds ≤ 1048576)
def OpenSpec.upto (s : _root_.Go.ChangeSpec) : _root_.Go.OpenSpec := { _root_.Go.OpenSpec.ofChange s with cond := some uptoSmall }

/-- 'halterlaw08.IsaParts', WHERE WHAT IT READS IS OF BULK AT MOST 1048576: true; the input reads as it did. -/
def isaPartsUptoRow : OpenClaim := { program := "ytlhmnkhfobpjjaa", sum := "c3a292d4697ec405fd0e00cb04ded0b6b606e2649ea21242c6119507c1e52cc0", func := "halter/halterlaw08.IsaParts", spec := "isaParts", apart := false, narrowed := true }
def IsaPartsUptoSaid : Prop := isaPartsUptoRow.holds Try.pinned (OpenSpec.upto isaPartsSpec)

/-- 'halterlaw06.EntryUses', WHERE WHAT IT READS IS OF BULK AT MOST 1048576: true; the input reads as it did. -/
def entryUsesUptoRow : OpenClaim := { program := "ytlhmnkhfobpjjaa", sum := "c3a292d4697ec405fd0e00cb04ded0b6b606e2649ea21242c6119507c1e52cc0", func := "halter/halterlaw06.EntryUses", spec := "entryUses", apart := false, narrowed := true }
def EntryUsesUptoSaid : Prop := entryUsesUptoRow.holds Try.pinned (OpenSpec.upto entryUsesSpec)

end Rows
end Go.Proofs.Ytlhmnkhfobpjjaa
