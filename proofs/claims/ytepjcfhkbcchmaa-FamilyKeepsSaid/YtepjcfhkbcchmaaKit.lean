/- Small words on worlds, over any program: what lies below stays. -/
import Derived.WalkKit
import Derived.Below
import Derived.Lib.Hide
import Derived.Deep.Draws
import Derived.BigQuiet
namespace Go.Proofs.Ytepjcfhkbcchmaa
set_option linter.unusedSimpArgs false
set_option linter.unusedVariables false
open Go.RowKit

/-- A world that came behind w, all that lay in w being as it was. For regions that draw their order and hold calls that make memory: ONE walk serves every order. -/
def Later (w : World) : Type := { w' : World // Below w.heap.size w w' }
instance (w : World) : Nonempty (Later w) := ⟨⟨w, Below.refl _ _⟩⟩
instance (w : World) : Inhabited (Later w) := ⟨⟨w, Below.refl _ _⟩⟩
theorem Later.cell {w : World} (n : Later w) {b : Nat} (o : Nat) (h : b < w.heap.size) : n.1.cell? ⟨b, o, none⟩ = w.cell? ⟨b, o, none⟩ := n.2.cell (p := ⟨b, o, none⟩) h
theorem Later.frozen {w : World} (n : Later w) {b : Nat} (o : Nat) (h : b < w.heap.size) : n.1.frozen? ⟨b, o, none⟩ = w.frozen? ⟨b, o, none⟩ := n.2.frozen (p := ⟨b, o, none⟩) h
theorem wp_region_later {P : Program} {id : Nat} {Q : Exit → Act → World → Prop} {a : Act} {w : World} {l : List Oper} (hm : P.follows .mixedOrders = true) (hB : Region.lexB .any l.toArray = true)
    (h : wpQuiet P l.toArray (fun w' => ∃ n : Later w, w' = n.1) (fun a' => ∀ w', (∃ n : Later w, w' = n.1) → Q .normal a' w') l a) : (Code.region id l.toArray true).wp P Q a w :=
  wp_region_quiet (C := fun w' => ∃ n : Later w, w' = n.1) hm hB ⟨⟨_, (Below.refl _ _).drew⟩, rfl⟩ (by simpa using h)
/-- An error as a value: nil, or an Errno. -/
def errW : Option Int → Value
  | none => .nilIface
  | some c => .iface 44 (.int .i64 c)
theorem errW_none : errW none = .nilIface := rfl
theorem errW_some (c : Int) : errW (some c) = .iface 44 (.int .i64 c) := rfl
end Go.Proofs.Ytepjcfhkbcchmaa
