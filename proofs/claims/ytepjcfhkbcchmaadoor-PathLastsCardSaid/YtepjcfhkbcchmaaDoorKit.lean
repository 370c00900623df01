/- Small words on worlds, over any program: what lies below stays. -/
import Derived.WalkKit
import Derived.Below
import Derived.Lib.Hide
import Derived.Deep.Draws
import Derived.BigQuiet
namespace Go.Proofs.YtepjcfhkbcchmaaDoor
set_option linter.unusedSimpArgs false
set_option linter.unusedVariables false
open Go.RowKit

theorem ba {w w' : World} (h : Below w.heap.size w w') (o : Obj) : Below w.heap.size w (w'.alloc o) := h.alloc h.size o
theorem bs {w w' : World} (h : Below w.heap.size w w') {p : Addr} (hp : w.heap.size ≤ p.block) (u : Value) : Below w.heap.size w (w'.setCell p u) := h.setCell hp u
theorem bt {w w1 w2 : World} (h : Below w.heap.size w w1) (h' : Below w1.heap.size w1 w2) : Below w.heap.size w w2 := h.trans (h'.mono h.size)
/-- A world that came behind w, all that lay in w being as it was. For regions that draw their order and hold calls that make memory: ONE walk serves every order. -/
def Later (w : World) : Type := { w' : World // Below w.heap.size w w' }
instance (w : World) : Nonempty (Later w) := ⟨⟨w, Below.refl _ _⟩⟩
instance (w : World) : Inhabited (Later w) := ⟨⟨w, Below.refl _ _⟩⟩
theorem Later.cell {w : World} (n : Later w) {b : Nat} (o : Nat) (h : b < w.heap.size) : n.1.cell? ⟨b, o, none⟩ = w.cell? ⟨b, o, none⟩ := n.2.cell (p := ⟨b, o, none⟩) h
theorem Later.frozen {w : World} (n : Later w) {b : Nat} (o : Nat) (h : b < w.heap.size) : n.1.frozen? ⟨b, o, none⟩ = w.frozen? ⟨b, o, none⟩ := n.2.frozen (p := ⟨b, o, none⟩) h
/-- An error as a value: nil, or an Errno. -/
def errW : Option Int → Value
  | none => .nilIface
  | some c => .iface 110 (.int .i64 c)
theorem errW_none : errW none = .nilIface := rfl
theorem errW_some (c : Int) : errW (some c) = .iface 110 (.int .i64 c) := rfl
/-- An error's number. -/
def numOf (e : Option Int) : Int := e.getD 0
end Go.Proofs.YtepjcfhkbcchmaaDoor
