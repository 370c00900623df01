-- Written by xprint.py (a program of this claim's author) by means of the kit's print. Not trusted: Lean checks it.
import Derived.Test.YtepjcfhkbcchmaaDoorXPathx0
import Derived.Test.YtepjcfhkbcchmaaDoorXPathx1
import Derived.Test.YtepjcfhkbcchmaaDoorXPathx2
import Derived.Test.YtepjcfhkbcchmaaDoorXPathx3
import Derived.Test.YtepjcfhkbcchmaaDoorXPathx4
import Derived.Test.YtepjcfhkbcchmaaDoorXPathx5
import Derived.Test.YtepjcfhkbcchmaaDoorXPathx6
import Derived.Test.YtepjcfhkbcchmaaDoorXPathx7
import Derived.Test.YtepjcfhkbcchmaaDoorXPathx8
namespace Go.Proofs.YtepjcfhkbcchmaaDoor.XPath
open Go.RowKit Go.Proofs.YtepjcfhkbcchmaaDoorW.PrintWords Go.Proofs.YtepjcfhkbcchmaaDoorW.PrintLast Go.Proofs.YtepjcfhkbcchmaaDoorW.PrintMore
attribute [local go_sem] max2_int min2_int max_two min_two max_three min_three max_four min_four   -- for this text's walks alone
set_option linter.unusedVariables false
set_option linter.unusedSimpArgs false

end Go.Proofs.YtepjcfhkbcchmaaDoor.XPath
