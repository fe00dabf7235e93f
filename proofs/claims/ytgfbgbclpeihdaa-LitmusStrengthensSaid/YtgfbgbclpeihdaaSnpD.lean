/- The reference's Check, plain: no condition. -/
import Derived.Test.YtgfbgbclpeihdaaSnpR
namespace Go.Proofs.Ytgfbgbclpeihdaa.XSn
open Go.RowKit Go.Proofs.YtgfbgbclpeihdaaW.PrintWords Go.Proofs.YtgfbgbclpeihdaaW.PrintLast Go.Proofs.YtgfbgbclpeihdaaW.PrintMore
set_option linter.unusedVariables false
set_option linter.unusedSimpArgs false
set_option maxRecDepth 100000
theorem rcheck_f (l : List (List S44)) (hl : l.length ≤ 1000) (hs : lens l ≤ 1000000) : locklessref03_Check.f l = some (Li.checkL (progOf l)) := by
  unfold locklessref03_Check.f
  rw [if_pos ⟨by rw [lens_flat]; exact hs, by omega⟩]
end Go.Proofs.Ytgfbgbclpeihdaa.XSn
