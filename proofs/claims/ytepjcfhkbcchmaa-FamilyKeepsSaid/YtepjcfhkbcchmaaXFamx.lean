-- Written by xprint.py (a program of this claim's author) by means of the kit's print. Not trusted: Lean checks it.
import Derived.Test.YtepjcfhkbcchmaaXFamx0
import Derived.Test.YtepjcfhkbcchmaaXFamx1
import Derived.Test.YtepjcfhkbcchmaaXFamx2
import Derived.Test.YtepjcfhkbcchmaaXFamx3
import Derived.Test.YtepjcfhkbcchmaaXFamx4
import Derived.Test.YtepjcfhkbcchmaaXFamx5
import Derived.Test.YtepjcfhkbcchmaaXFamx6
import Derived.Test.YtepjcfhkbcchmaaXFamx7
import Derived.Test.YtepjcfhkbcchmaaXFamx8
namespace Go.Proofs.Ytepjcfhkbcchmaa.XFam
open Go.RowKit Go.Proofs.YtepjcfhkbcchmaaW.PrintWords Go.Proofs.YtepjcfhkbcchmaaW.PrintLast Go.Proofs.YtepjcfhkbcchmaaW.PrintMore
attribute [local go_sem] max2_int min2_int max_two min_two max_three min_three max_four min_four   -- for this text's walks alone
set_option linter.unusedVariables false
set_option linter.unusedSimpArgs false

end Go.Proofs.Ytepjcfhkbcchmaa.XFam
