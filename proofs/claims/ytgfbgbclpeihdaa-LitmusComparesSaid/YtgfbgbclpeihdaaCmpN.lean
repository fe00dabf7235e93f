/- The reference's Same, plain: no condition. -/
import Derived.Test.YtgfbgbclpeihdaaCmpR
import Derived.Test.YtgfbgbclpeihdaaLiY
namespace Go.Proofs.Ytgfbgbclpeihdaa.XCm
open Go.RowKit Go.Proofs.YtgfbgbclpeihdaaW.PrintWords Go.Proofs.YtgfbgbclpeihdaaW.PrintLast Go.Proofs.YtgfbgbclpeihdaaW.PrintMore
set_option linter.unusedVariables false
set_option linter.unusedSimpArgs false
set_option maxRecDepth 100000
def smr : List S44 → List S44 → Bool
  | x :: r, y :: s => Li.eqO (opOf x) (opOf y) && smr r s
  | _, _ => true
def sm : List (List S44) → List (List S44) → Bool
  | r :: l, s :: m => (decide (r.length = s.length) && smr r s) && sm l m
  | _, _ => true
theorem smr_all : ∀ (r s : List S44), r.length = s.length → smr r s = Li.all2 Li.eqO (r.map opOf) (s.map opOf)
  | [], [], _ => rfl
  | x :: r, y :: s, h => by
    have h' : r.length = s.length := by simpa using h
    rw [smr, smr_all r s h']
    unfold Li.all2
    simp [h']
theorem all2_cons {α : Type} {f : α → α → Bool} {x y : α} {L M : List α} (h : L.length = M.length) : Li.all2 f (x :: L) (y :: M) = (f x y && Li.all2 f L M) := by
  unfold Li.all2
  simp [h]
theorem sm_all : ∀ (l m : List (List S44)), l.length = m.length → sm l m = Li.all2 (Li.all2 Li.eqO) (progOf l) (progOf m)
  | [], [], _ => rfl
  | r :: l, s :: m, h => by
    have h' : l.length = m.length := by simpa using h
    rw [sm, sm_all l m h']
    have e : (decide (r.length = s.length) && smr r s) = Li.all2 Li.eqO (r.map opOf) (s.map opOf) := by
      by_cases hl : r.length = s.length
      · rw [smr_all r s hl]; simp [hl]
      · rw [Li.all2_ne (by simpa using hl)]; simp [hl]
    rw [e]
    exact (all2_cons (by rw [prog_len, prog_len]; exact h')).symm
theorem sg_l1 (l m : List (List S44)) (hlm : l.length = m.length) (hl : l.length ≤ 1000) (hb : ∀ r ∈ l, r.length ≤ 1000) (i : Nat) (hi : i < l.length) (hi2 : i < m.length) (hr : (l[i]).length = (m[i]).length)
    (h0 : ∀ k, need (l.drop (i + 1)) < k → locklessref03_Same.l0 k ((i : Int) + 1) l m = some (sm (l.drop (i + 1)) (m.drop (i + 1)))) :
    ∀ (n j : Nat), (l[i]).length - j = n → j ≤ (l[i]).length → ∀ k, n + 1 + need (l.drop (i + 1)) < k → locklessref03_Same.l1 k i j l m = some (smr ((l[i]).drop j) ((m[i]).drop j) && sm (l.drop (i + 1)) (m.drop (i + 1)))
  | 0, j, hn, hj, k, hk => by
    obtain ⟨k, rfl, hk'⟩ := succ_fuel hk
    rw [locklessref03_Same.l1, if_pos (by omega), if_pos (by omega), L2_at hi, if_neg (by omega), w64 (by omega) (by omega), h0 k (by omega), List.drop_of_length_le (show (l[i]).length ≤ j by omega), smr, Bool.true_and]
    all_goals simp
  | n + 1, j, hn, hj, k, hk => by
    obtain ⟨k, rfl, hk'⟩ := succ_fuel hk
    have hrb := hb l[i] (List.getElem_mem hi)
    have hlt : j < (l[i]).length := by omega
    have hlt2 : j < (m[i]).length := by omega
    have ih := sg_l1 l m hlm hl hb i hi hi2 hr h0 n (j + 1) (by omega) (by omega) k (by omega)
    rw [locklessref03_Same.l1, if_pos (by omega), if_pos (by omega), L2_at hi, if_pos (by omega), if_pos (by omega), if_pos (by omega), L2_at hi2, if_pos (by omega), T_at hlt, T_at hlt2]
    rw [List.drop_eq_getElem_cons hlt, List.drop_eq_getElem_cons hlt2, smr]
    have hE : Li.eqO (opOf (l[i])[j]) (opOf (m[i])[j]) = !(!(((l[i])[j]).f0 == ((m[i])[j]).f0) || (!(((l[i])[j]).f1 == ((m[i])[j]).f1) || (!(((l[i])[j]).f2 == ((m[i])[j]).f2) || (!(((l[i])[j]).f3 == ((m[i])[j]).f3) || !(((l[i])[j]).f4 == ((m[i])[j]).f4))))) := by
      unfold Li.eqO; simp only [Bool.not_or, Bool.not_not]; rfl
    rw [hE]
    split
    · rename_i h; rw [h]; rfl
    · rename_i h
      rw [Bool.not_eq_true] at h
      rw [h, w64 (by omega) (by omega), show ((j : Int) + 1) = ((j + 1 : Nat) : Int) by omega, ih]
      rfl
theorem sg_l0 (l m : List (List S44)) (hlm : l.length = m.length) (hl : l.length ≤ 1000) (hb : ∀ r ∈ l, r.length ≤ 1000) : ∀ (n i : Nat), l.length - i = n → i ≤ l.length → ∀ k, need (l.drop i) < k → locklessref03_Same.l0 k i l m = some (sm (l.drop i) (m.drop i))
  | 0, i, hn, hi, k, hk => by
    obtain ⟨k, rfl, _⟩ := succ_fuel hk
    rw [locklessref03_Same.l0, if_neg (by omega), List.drop_of_length_le (by omega), sm]
    all_goals simp
  | n + 1, i, hn, hi, k, hk => by
    have hlt : i < l.length := by omega
    have hlt2 : i < m.length := by omega
    rw [need_drop hlt] at hk
    obtain ⟨k, rfl, hk'⟩ := succ_fuel hk
    rw [locklessref03_Same.l0, if_pos (by omega), if_pos (by omega), if_pos (by omega), L2_at hlt, L2_at hlt2, List.drop_eq_getElem_cons hlt, List.drop_eq_getElem_cons hlt2, sm]
    by_cases hr : (l[i]).length = (m[i]).length
    · rw [if_pos (by omega), show decide ((l[i]).length = (m[i]).length) = true by simp [hr], Bool.true_and]
      have h0 : ∀ k, need (l.drop (i + 1)) < k → locklessref03_Same.l0 k ((i : Int) + 1) l m = some (sm (l.drop (i + 1)) (m.drop (i + 1))) := fun k hk => sg_l0 l m hlm hl hb n (i + 1) (by omega) (by omega) k hk
      have := sg_l1 l m hlm hl hb i hlt hlt2 hr h0 (l[i]).length 0 (by omega) (by omega) k (by omega)
      rw [List.drop_zero, List.drop_zero] at this
      exact this
    · rw [if_neg (by omega), show decide ((l[i]).length = (m[i]).length) = false by simp [hr], Bool.false_and, Bool.false_and]
theorem sameg_f (l m : List (List S44)) (hl : l.length ≤ 1000) (hb : ∀ r ∈ l, r.length ≤ 1000) (k : Nat) (hk : need l < k) : locklessref03_Same.f k l m = some (Li.all2 (Li.all2 Li.eqO) (progOf l) (progOf m)) := by
  unfold locklessref03_Same.f
  by_cases h : l.length = m.length
  · rw [if_pos (by omega)]
    have := sg_l0 l m h hl hb l.length 0 (by omega) (by omega) k (by rw [List.drop_zero]; exact hk)
    rw [List.drop_zero, List.drop_zero, sm_all l m h] at this
    exact this
  · rw [if_neg (by omega), Li.all2_ne (by rw [prog_len, prog_len]; exact h)]
end Go.Proofs.Ytgfbgbclpeihdaa.XCm
