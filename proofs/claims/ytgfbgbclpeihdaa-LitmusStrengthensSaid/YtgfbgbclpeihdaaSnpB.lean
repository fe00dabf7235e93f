/- A program rebuilt operation by operation, plain: no condition. -/
import Derived.Test.YtgfbgbclpeihdaaSnpR
namespace Go.Proofs.Ytgfbgbclpeihdaa.XSn
open Go.RowKit Go.Proofs.YtgfbgbclpeihdaaW.PrintWords Go.Proofs.YtgfbgbclpeihdaaW.PrintLast Go.Proofs.YtgfbgbclpeihdaaW.PrintMore
set_option linter.unusedVariables false
set_option linter.unusedSimpArgs false
set_option maxRecDepth 100000
set_option maxHeartbeats 4000000
theorem access_f (x : S44) : litmus_access.f x.f0 x.f1 x.f2 x.f3 x.f4 = some (Li.accL (opOf x)) := by
  unfold litmus_access.f Li.accL opOf
  by_cases h : x.f0 ≥ 0
  · rw [if_pos h, show decide (0 ≤ x.f0) = true by simp; omega, Bool.true_and]
  · rw [if_neg h, show decide (0 ≤ x.f0) = false by simp; omega]; rfl
/-- Each operation replaced by others; b: no access of the thread stands ahead of it. -/
def rb (F : S44 → Bool → List S44) : Bool → List S44 → List S44
  | _, [] => []
  | b, x :: r => F x b ++ rb F (b && !Li.accL (opOf x)) r
theorem rb_flat {F : S44 → Bool → List S44} {G : S44 → List S44} (h : ∀ x b, F x b = G x) : ∀ (r : List S44) (b : Bool), rb F b r = r.flatMap G
  | [], _ => rfl
  | x :: r, b => by rw [rb, h, rb_flat h r, List.flatMap_cons]
theorem ok_of_check {l : List (List S44)} (h : Li.checkL (progOf l) = 0) : ∀ r ∈ l, ∀ x ∈ r, Li.okL (opOf x) = true := by
  unfold Li.checkL at h
  split at h
  · simp at h
  split at h
  · simp at h
  split at h
  · rename_i hall
    rw [List.all_eq_true] at hall
    intro r hr x hx
    refine hall _ ?_
    unfold progOf
    exact List.mem_flatten.2 ⟨r.map opOf, List.mem_map.2 ⟨r, hr, rfl⟩, List.mem_map.2 ⟨x, hx, rfl⟩⟩
  · simp at h
end Go.Proofs.Ytgfbgbclpeihdaa.XSn
