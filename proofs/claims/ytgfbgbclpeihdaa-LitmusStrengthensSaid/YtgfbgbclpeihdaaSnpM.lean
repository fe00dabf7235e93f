/- A program is the same as itself, plain: no condition. -/
import Derived.Test.YtgfbgbclpeihdaaSnpR
namespace Go.Proofs.Ytgfbgbclpeihdaa.XSn
open Go.RowKit Go.Proofs.YtgfbgbclpeihdaaW.PrintWords Go.Proofs.YtgfbgbclpeihdaaW.PrintLast Go.Proofs.YtgfbgbclpeihdaaW.PrintMore
set_option linter.unusedVariables false
set_option linter.unusedSimpArgs false
set_option maxRecDepth 100000
theorem same_l1 (l : List (List S44)) (hl : l.length ≤ 1000) (hb : ∀ r ∈ l, r.length ≤ 1000) (i : Nat) (hi : i < l.length) (h0 : ∀ k, need (l.drop (i + 1)) < k → locklessref03_Same.l0 k ((i : Int) + 1) l l = some true) : ∀ (m j : Nat), (l[i]).length - j = m → j ≤ (l[i]).length → ∀ k, m + 1 + need (l.drop (i + 1)) < k → locklessref03_Same.l1 k i j l l = some true
  | 0, j, hm, hj, k, hk => by
    obtain ⟨k, rfl, hk'⟩ := succ_fuel hk
    unfold locklessref03_Same.l1
    rw [if_pos (by omega), if_pos (by omega), L2_at hi, if_neg (by omega), w64 (by omega) (by omega)]
    exact h0 k (by omega)
  | m + 1, j, hm, hj, k, hk => by
    obtain ⟨k, rfl, hk'⟩ := succ_fuel hk
    have hr := hb l[i] (List.getElem_mem hi)
    have ih := same_l1 l hl hb i hi h0 m (j + 1) (by omega) (by omega) k (by omega)
    unfold locklessref03_Same.l1
    rw [if_pos (by omega), if_pos (by omega), L2_at hi, if_pos (by omega), if_pos (by omega), if_pos (by omega), if_pos (by omega), if_neg (by simp), w64 (by omega) (by omega)]
    rw [← ih]
    congr 1
theorem same_l0 (l : List (List S44)) (hl : l.length ≤ 1000) (hb : ∀ r ∈ l, r.length ≤ 1000) : ∀ (m i : Nat), l.length - i = m → i ≤ l.length → ∀ k, need (l.drop i) < k → locklessref03_Same.l0 k i l l = some true
  | 0, i, hm, hi, k, hk => by
    obtain ⟨k, rfl, _⟩ := succ_fuel hk
    unfold locklessref03_Same.l0
    rw [if_neg (by omega)]
  | m + 1, i, hm, hi, k, hk => by
    have hlt : i < l.length := by omega
    rw [need_drop hlt] at hk
    obtain ⟨k, rfl, hk'⟩ := succ_fuel hk
    have h0 : ∀ k, need (l.drop (i + 1)) < k → locklessref03_Same.l0 k ((i : Int) + 1) l l = some true := fun k hk => by
      have := same_l0 l hl hb m (i + 1) (by omega) (by omega) k hk
      rw [← this]; congr 1
    unfold locklessref03_Same.l0
    rw [if_pos (by omega), if_pos (by omega), if_pos (by omega), if_pos rfl]
    exact same_l1 l hl hb i hlt h0 (l[i]).length 0 (by omega) (by omega) k (by omega)
theorem same_f (l : List (List S44)) (hl : l.length ≤ 1000) (hb : ∀ r ∈ l, r.length ≤ 1000) (k : Nat) (hk : need l < k) : locklessref03_Same.f k l l = some true := by
  unfold locklessref03_Same.f
  rw [if_pos rfl]
  exact same_l0 l hl hb l.length 0 (by omega) (by omega) k (by simpa using hk)
end Go.Proofs.Ytgfbgbclpeihdaa.XSn
