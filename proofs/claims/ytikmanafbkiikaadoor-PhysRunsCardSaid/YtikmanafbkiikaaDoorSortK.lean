/- A row of structs that the call owns, sorted by slices.SortFunc: between the print's words (Kd.R) and the shelf's (HoldsK, sortWorldK). No program. -/
import Derived.Shelf.SlSortCmp.WholeK
import Derived.Test.YtikmanafbkiikaaDoorWKept
import Derived.Test.YtikmanafbkiikaaDoorWWords
namespace Go.Proofs.YtikmanafbkiikaaDoor.SortK
set_option linter.unusedSimpArgs false
set_option linter.unusedVariables false
open Go Go.RowKit Go.Sort Go.Proofs.YtikmanafbkiikaaDoorW.PrintWords

section
variable {α : Type} {enc : α → List Value} {k : Nat}
theorem flat_len (hk : ∀ x, (enc x).length = k) (l : List α) : (l.flatMap enc).length = l.length * k := by
  induction l with
  | nil => simp
  | cons x r ih => rw [List.flatMap_cons, List.length_append, hk, ih, List.length_cons, Nat.add_mul, Nat.one_mul, Nat.add_comm]
end

section
variable {α β : Type} [Inhabited β] {kd : Kd α} {e base g cap n : Nat} {w : World} {ok : Nat → Prop} {l : List α} {enc : α → List Value} {val : β → α}
end
end Go.Proofs.YtikmanafbkiikaaDoor.SortK
