/- Small words on worlds, over any program: what lies below stays. -/
import Derived.WalkKit
import Derived.Below
import Derived.Lib.Hide
import Derived.Deep.Draws
import Derived.BigQuiet
namespace Go.Proofs.YtikmanafbkiikaaDoor
set_option linter.unusedSimpArgs false
set_option linter.unusedVariables false
open Go.RowKit

theorem ba {w w' : World} (h : Below w.heap.size w w') (o : Obj) : Below w.heap.size w (w'.alloc o) := h.alloc h.size o
theorem bs {w w' : World} (h : Below w.heap.size w w') {p : Addr} (hp : w.heap.size ≤ p.block) (u : Value) : Below w.heap.size w (w'.setCell p u) := h.setCell hp u
theorem bt {w w1 w2 : World} (h : Below w.heap.size w w1) (h' : Below w1.heap.size w1 w2) : Below w.heap.size w w2 := h.trans (h'.mono h.size)
theorem bd {w w' : World} (h : Below w.heap.size w w') : Below w.heap.size w w'.drew := h.drew
theorem bdN {w w' : World} (h : Below w.heap.size w w') (n : Nat) : Below w.heap.size w (w'.drewN n) := ⟨h.os, h.tape, h.output, h.size, h.block⟩
/-- What a contract's 'Below' tells the walk. -/
theorem bcell {W w1 : World} (hb : Below W.heap.size W w1) : (∀ b o, b < W.heap.size → w1.cell? ⟨b, o, none⟩ = W.cell? ⟨b, o, none⟩) ∧ (∀ b o, b < W.heap.size → w1.frozen? ⟨b, o, none⟩ = W.frozen? ⟨b, o, none⟩) ∧ W.heap.size ≤ w1.heap.size :=
  ⟨fun b o h => hb.cell (p := ⟨b, o, none⟩) h, fun b o h => hb.frozen (p := ⟨b, o, none⟩) h, hb.size⟩
theorem size_drewN (w : World) (n : Nat) : (w.drewN n).heap.size = w.heap.size := rfl
theorem btH {w w1 w2 : World} (h : Below w.heap.size w w1) (h' : Hid (Below w1.heap.size w1 w2)) : Below w.heap.size w w2 := bt h h'
/-- A world that came behind w, all that lay in w being as it was. For regions that draw their order and hold calls that make memory: ONE walk serves every order. -/
def Later (w : World) : Type := { w' : World // Below w.heap.size w w' }
instance (w : World) : Nonempty (Later w) := ⟨⟨w, Below.refl _ _⟩⟩
instance (w : World) : Inhabited (Later w) := ⟨⟨w, Below.refl _ _⟩⟩
theorem Later.cell {w : World} (n : Later w) {b : Nat} (o : Nat) (h : b < w.heap.size) : n.1.cell? ⟨b, o, none⟩ = w.cell? ⟨b, o, none⟩ := n.2.cell (p := ⟨b, o, none⟩) h
theorem Later.frozen {w : World} (n : Later w) {b : Nat} (o : Nat) (h : b < w.heap.size) : n.1.frozen? ⟨b, o, none⟩ = w.frozen? ⟨b, o, none⟩ := n.2.frozen (p := ⟨b, o, none⟩) h
/-- An error as a value: nil, or an Errno. -/
def errW : Option Int → Value
  | none => .nilIface
  | some c => .iface 123 (.int .i64 c)
theorem errW_none : errW none = .nilIface := rfl
theorem errW_some (c : Int) : errW (some c) = .iface 123 (.int .i64 c) := rfl
/-- The one error of what can't be. -/
def argErr (o : Bool) : Option Int := if o then none else some 22
/-- An error's number. -/
def numOf (e : Option Int) : Int := e.getD 0
/-- Ends that agree. -/
theorem ret1 {x x' : Value} (h : x = x') : Ending.returned x = .returned x' := by rw [h]
theorem ret2 {x x' y y' : Value} (h : x = x') (k : y = y') : Ending.returned (.tuple #[x, y]) = .returned (.tuple #[x', y']) := by rw [h, k]
theorem vint {k : IntKind} {a b : Int} (h : a = b) : Value.int k a = .int k b := by rw [h]
theorem vbool {a b : Bool} (h : a = b) : Value.bool a = .bool b := by rw [h]
end Go.Proofs.YtikmanafbkiikaaDoor
