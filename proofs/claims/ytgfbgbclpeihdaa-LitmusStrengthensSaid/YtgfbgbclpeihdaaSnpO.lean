/- A program of its own, plain: no condition. -/
import Derived.Test.YtgfbgbclpeihdaaSnpR
namespace Go.Proofs.Ytgfbgbclpeihdaa.XSn
open Go.RowKit Go.Proofs.YtgfbgbclpeihdaaW.PrintWords Go.Proofs.YtgfbgbclpeihdaaW.PrintLast Go.Proofs.YtgfbgbclpeihdaaW.PrintMore
set_option linter.unusedVariables false
set_option linter.unusedSimpArgs false
set_option maxRecDepth 100000
theorem own_l0 (l : List (List S44)) (hl : l.length ≤ 1000) (hb : ∀ r ∈ l, r.length ≤ 1000) : ∀ (m i : Nat), l.length - i = m → i ≤ l.length → ∀ k, m < k → locklessref03_Own.l0 k i l (l.take i) = some l
  | 0, i, hm, hi, k, hk => by
    obtain ⟨k, rfl, _⟩ := succ_fuel hk
    unfold locklessref03_Own.l0
    rw [if_neg (by omega), List.take_of_length_le (by omega)]
  | m + 1, i, hm, hi, k, hk => by
    have hlt : i < l.length := by omega
    obtain ⟨k, rfl, hk'⟩ := succ_fuel hk
    have hr := hb l[i] (List.getElem_mem hlt)
    have ih := own_l0 l hl hb m (i + 1) (by omega) (by omega) k (by omega)
    unfold locklessref03_Own.l0
    rw [if_pos (by omega)]
    show (if 0 ≤ (i : Int) then _ else none) = _
    rw [if_pos (by omega), L2_at hlt, if_pos (show ([] : List S44).length + (l[i]).length < 3518437208883 by rw [List.length_nil]; omega), if_pos (show (l.take i).length < 5864062014805 by rw [List.length_take]; omega), w64 (by omega) (by omega), List.nil_append]
    rw [List.take_succ_eq_append_getElem hlt] at ih
    rw [← ih]
    congr 1
theorem own_f (l : List (List S44)) (hl : l.length ≤ 1000) (hb : ∀ r ∈ l, r.length ≤ 1000) (k : Nat) (hk : l.length < k) : locklessref03_Own.f k l = some l := own_l0 l hl hb l.length 0 (by omega) (by omega) k hk
end Go.Proofs.Ytgfbgbclpeihdaa.XSn
