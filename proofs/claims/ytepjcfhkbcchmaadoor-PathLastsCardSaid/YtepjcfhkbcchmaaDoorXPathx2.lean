-- Written by xprint.py (a program of this claim's author) by means of the kit's print. Not trusted: Lean checks it.
import Derived.Test.YtepjcfhkbcchmaaDoorStrL
import Derived.Test.YtepjcfhkbcchmaaDoorXPathx0
namespace Go.Proofs.YtepjcfhkbcchmaaDoor.XPath
open Go.RowKit Go.Proofs.YtepjcfhkbcchmaaDoorW.PrintWords Go.Proofs.YtepjcfhkbcchmaaDoorW.PrintLast Go.Proofs.YtepjcfhkbcchmaaDoorW.PrintMore
attribute [local go_sem] max2_int min2_int max_two min_two max_three min_three max_four min_four   -- for this text's walks alone
set_option linter.unusedVariables false
set_option linter.unusedSimpArgs false

-- EXTERN strings_TrimLeft
/-! ### strings_TrimLeft: function 77, by hand -/
def strings_TrimLeft.f (a0 a1 : ByteArray) : Option ByteArray := if a1.size < 1000 ∧ (a1.data.toList.all fun b => decide (b.toNat < 128)) = true then some ⟨(Lib.trimLeftS a0.data.toList a1.data.toList).toArray⟩ else none
theorem strings_TrimLeft.calls (a0 a1 : ByteArray) (r : ByteArray) (w : World) (h : strings_TrimLeft.f a0 a1 = some r) :
    Calls Tryd.prog 77 #[.string a0, .string a1] w fun e w' => e = .returned (.string r) ∧ Below w.heap.size w w' := by
  unfold strings_TrimLeft.f at h
  split at h
  case isFalse => cases h
  rename_i hs
  obtain rfl := Option.some.inj h
  exact strTrimLeft a0 a1 w (by omega) (ascii_of_all hs.2)

end Go.Proofs.YtepjcfhkbcchmaaDoor.XPath
