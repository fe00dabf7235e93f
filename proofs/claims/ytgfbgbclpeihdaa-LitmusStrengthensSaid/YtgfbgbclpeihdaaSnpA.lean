/- Words for the plain texts: no condition. -/
import Derived.Test.YtgfbgbclpeihdaaXSn
namespace Go.Proofs.Ytgfbgbclpeihdaa.XSn
open Go.RowKit Go.Proofs.Ytgfbgbclpeihdaa.Li Go.Proofs.YtgfbgbclpeihdaaW.PrintWords Go.Proofs.YtgfbgbclpeihdaaW.PrintLast Go.Proofs.YtgfbgbclpeihdaaW.PrintMore
set_option linter.unusedVariables false
set_option linter.unusedSimpArgs false
set_option maxRecDepth 100000
set_option maxHeartbeats 4000000
theorem w64 {n : Int} (h0 : -9223372036854775808 ≤ n) (h1 : n < 9223372036854775808) : wrap64 n = n := by
  rw [← i64_w]; exact IntWalk.i64_in _ (by omega)
theorem wsucc (n : Nat) (h : n ≤ 4000000) : wrap64 ((n : Int) + 1) = ((n + 1 : Nat) : Int) := (w64 (by omega) (by omega)).trans (by omega)
theorem wsucc2 (n : Nat) (h : n ≤ 4000000) : wrap64 ((n : Int) + 2) = ((n + 2 : Nat) : Int) := (w64 (by omega) (by omega)).trans (by omega)
theorem L2_at {l : List (List S44)} {i : Nat} (h : i < l.length) : rd_L2 l (i : Int) = l[i] := by
  unfold rd_L2; rw [Int.toNat_natCast, List.getD_eq_getElem?_getD, List.getElem?_eq_getElem h]; rfl
theorem T_at {l : List S44} {i : Nat} (h : i < l.length) : rd_T44 l (i : Int) = l[i] := by
  unfold rd_T44; rw [Int.toNat_natCast, List.getD_eq_getElem?_getD, List.getElem?_eq_getElem h]; rfl
theorem succ_fuel {m k : Nat} (h : m < k) : ∃ k', k = k' + 1 ∧ m ≤ k' := ⟨k - 1, by omega, by omega⟩
def lens (l : List (List S44)) : Nat := (l.map List.length).sum
theorem lens_drop {l : List (List S44)} {i : Nat} (h : i < l.length) : lens (l.drop i) = (l[i]).length + lens (l.drop (i + 1)) := by
  rw [List.drop_eq_getElem_cons h]; simp only [lens, List.map_cons, List.sum_cons]
theorem lens_flat (l : List (List S44)) : (progOf l).flatten.length = lens l := by
  unfold progOf lens
  rw [← List.map_flatten, List.length_map, List.length_flatten]
end Go.Proofs.Ytgfbgbclpeihdaa.XSn
