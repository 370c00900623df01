-- Written by xprint.py (a program of this claim's author) by means of the kit's print. Not trusted: Lean checks it.
import Derived.Test.YtepjcfhkbcchmaaDoorXFamx0
import Derived.Test.YtepjcfhkbcchmaaDoorXFamx1
namespace Go.Proofs.YtepjcfhkbcchmaaDoor.XFam
open Go.RowKit Go.Proofs.YtepjcfhkbcchmaaDoorW.PrintWords Go.Proofs.YtepjcfhkbcchmaaDoorW.PrintLast Go.Proofs.YtepjcfhkbcchmaaDoorW.PrintMore
attribute [local go_sem] max2_int min2_int max_two min_two max_three min_three max_four min_four   -- for this text's walks alone
set_option linter.unusedVariables false
set_option linter.unusedSimpArgs false

attribute [local go_sem high] eqA57
/-! ### halterlaw24_same: function 27 -/
-- NOT PRINTED: function 31 (halterref24_Children)

-- NOT PRINTED: function 4 (halterlaw24_FamilySteps)

end Go.Proofs.YtepjcfhkbcchmaaDoor.XFam
