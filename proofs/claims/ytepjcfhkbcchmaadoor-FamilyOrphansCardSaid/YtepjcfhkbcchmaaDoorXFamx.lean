-- Written by xprint.py (a program of this claim's author) by means of the kit's print. Not trusted: Lean checks it.
import Derived.Test.YtepjcfhkbcchmaaDoorXFamx0
import Derived.Test.YtepjcfhkbcchmaaDoorXFamx1
import Derived.Test.YtepjcfhkbcchmaaDoorXFamx2
import Derived.Test.YtepjcfhkbcchmaaDoorXFamx3
import Derived.Test.YtepjcfhkbcchmaaDoorXFamx4
import Derived.Test.YtepjcfhkbcchmaaDoorXFamx5
import Derived.Test.YtepjcfhkbcchmaaDoorXFamx6
import Derived.Test.YtepjcfhkbcchmaaDoorXFamx7
import Derived.Test.YtepjcfhkbcchmaaDoorXFamx8
import Derived.Test.YtepjcfhkbcchmaaDoorXFamx9
import Derived.Test.YtepjcfhkbcchmaaDoorXFamx10
import Derived.Test.YtepjcfhkbcchmaaDoorXFamx11
namespace Go.Proofs.YtepjcfhkbcchmaaDoor.XFam
open Go.RowKit Go.Proofs.YtepjcfhkbcchmaaDoorW.PrintWords Go.Proofs.YtepjcfhkbcchmaaDoorW.PrintLast Go.Proofs.YtepjcfhkbcchmaaDoorW.PrintMore
attribute [local go_sem] max2_int min2_int max_two min_two max_three min_three max_four min_four   -- for this text's walks alone
set_option linter.unusedVariables false
set_option linter.unusedSimpArgs false

end Go.Proofs.YtepjcfhkbcchmaaDoor.XFam
