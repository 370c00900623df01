/- Small words on worlds, over any program: what lies below stays. -/
import Derived.WalkKit
import Derived.Below
import Derived.Lib.Hide
import Derived.Deep.Draws
import Derived.BigQuiet
namespace Go.Proofs.YtikmanafbkiikaaDoor
set_option linter.unusedSimpArgs false
set_option linter.unusedVariables false
open Go.RowKit

theorem ba {w w' : World} (h : Below w.heap.size w w') (o : Obj) : Below w.heap.size w (w'.alloc o) := h.alloc h.size o
theorem bs {w w' : World} (h : Below w.heap.size w w') {p : Addr} (hp : w.heap.size ≤ p.block) (u : Value) : Below w.heap.size w (w'.setCell p u) := h.setCell hp u
/-- A world that came behind w, all that lay in w being as it was. For regions that draw their order and hold calls that make memory: ONE walk serves every order. -/
def Later (w : World) : Type := { w' : World // Below w.heap.size w w' }
instance (w : World) : Nonempty (Later w) := ⟨⟨w, Below.refl _ _⟩⟩
instance (w : World) : Inhabited (Later w) := ⟨⟨w, Below.refl _ _⟩⟩
theorem Later.cell {w : World} (n : Later w) {b : Nat} (o : Nat) (h : b < w.heap.size) : n.1.cell? ⟨b, o, none⟩ = w.cell? ⟨b, o, none⟩ := n.2.cell (p := ⟨b, o, none⟩) h
theorem Later.frozen {w : World} (n : Later w) {b : Nat} (o : Nat) (h : b < w.heap.size) : n.1.frozen? ⟨b, o, none⟩ = w.frozen? ⟨b, o, none⟩ := n.2.frozen (p := ⟨b, o, none⟩) h
theorem Later.ex {w : World} {p : World → Prop} (h : ∀ w', Below w.heap.size w w' → p w') (n : Later w) : p n.1 := h n.1 n.2
/-- An error as a value: nil, or an Errno. -/
def errW : Option Int → Value
  | none => .nilIface
  | some c => .iface 123 (.int .i64 c)
theorem errW_none : errW none = .nilIface := rfl
theorem errW_some (c : Int) : errW (some c) = .iface 123 (.int .i64 c) := rfl
end Go.Proofs.YtikmanafbkiikaaDoor
