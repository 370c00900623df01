-- Written by xprint.py (a program of this claim's author) by means of the kit's print. Not trusted: Lean checks it.
import Derived.Test.YtepjcfhkbcchmaaDoorPathP
import Derived.Test.YtepjcfhkbcchmaaDoorStrL
import Derived.Test.YtepjcfhkbcchmaaDoorXPathx0
namespace Go.Proofs.YtepjcfhkbcchmaaDoor.XPath
open Go.RowKit Go.Proofs.YtepjcfhkbcchmaaDoorW.PrintWords Go.Proofs.YtepjcfhkbcchmaaDoorW.PrintLast Go.Proofs.YtepjcfhkbcchmaaDoorW.PrintMore
attribute [local go_sem] max2_int min2_int max_two min_two max_three min_three max_four min_four   -- for this text's walks alone
set_option linter.unusedVariables false
set_option linter.unusedSimpArgs false

-- EXTERN path_parts
/-! ### path_parts: function 70, by hand -/
def path_parts.f (a0 : ByteArray) : Option (List ByteArray) := if a0.size ≤ 1000000000 then some (partsB a0) else none
theorem path_parts.calls (a0 : ByteArray) (r : List ByteArray) (w : World) (h : path_parts.f a0 = some r) :
    Calls Tryd.prog 70 #[.string a0] w fun e w' => ∃ v0_ : Value, e = .returned v0_ ∧ Kd.R Kd.string 9 w' w.heap.size (fun _ => True) v0_ r ∧ Below w.heap.size w w' := by
  unfold path_parts.f at h
  split at h
  case isFalse => cases h
  rename_i hs
  obtain rfl := Option.some.inj h
  refine (parts_calls a0 w hs).mono ?_
  rintro e w' ⟨v, rfl, hr, hb⟩
  exact ⟨v, rfl, strs_R hr, hb⟩

end Go.Proofs.YtepjcfhkbcchmaaDoor.XPath
