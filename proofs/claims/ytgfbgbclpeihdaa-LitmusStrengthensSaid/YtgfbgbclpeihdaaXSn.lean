/- What the Go functions of this text compute, as plain Lean functions, and that the machine does just that: written by a program of this session; no condition. -/
import Derived.Test.YtgfbgbclpeihdaaXSn0
import Derived.Test.YtgfbgbclpeihdaaXSn1
import Derived.Test.YtgfbgbclpeihdaaXSn2
import Derived.Test.YtgfbgbclpeihdaaXSn3
import Derived.Test.YtgfbgbclpeihdaaXSn4
import Derived.Test.YtgfbgbclpeihdaaXSn5
import Derived.Test.YtgfbgbclpeihdaaXSn6
import Derived.Test.YtgfbgbclpeihdaaXSn7
namespace Go.Proofs.Ytgfbgbclpeihdaa.XSn
open Go.RowKit Go.Proofs.YtgfbgbclpeihdaaW.PrintWords Go.Proofs.YtgfbgbclpeihdaaW.PrintLast Go.Proofs.YtgfbgbclpeihdaaW.PrintMore
attribute [local go_sem] max2_int min2_int max_two min_two max_three min_three max_four min_four   -- for this text's walks alone
set_option linter.unusedVariables false
set_option linter.unusedSimpArgs false

end Go.Proofs.Ytgfbgbclpeihdaa.XSn
