/- LitmusCompares in plain words: no condition. -/
import Derived.Test.YtgfbgbclpeihdaaCmpN
import Derived.Test.YtgfbgbclpeihdaaCmpO
namespace Go.Proofs.Ytgfbgbclpeihdaa.XCm
open Go.RowKit Go.Proofs.YtgfbgbclpeihdaaW.PrintWords Go.Proofs.YtgfbgbclpeihdaaW.PrintLast Go.Proofs.YtgfbgbclpeihdaaW.PrintMore
set_option linter.unusedVariables false
set_option linter.unusedSimpArgs false
set_option maxRecDepth 100000
theorem large_or (l : List (List S44)) (hl : l.length ≤ 17592186044416) (hb : ∀ r ∈ l, r.length ≤ 35184372088832) : (∀ k, l.length < k → locklesslaw03_Large.f k l = some true) ∨ ((∀ k, l.length < k → locklesslaw03_Large.f k l = some false) ∧ l.length ≤ 60 ∧ lens l ≤ 60 ∧ ∀ r ∈ l, r.length ≤ 1000) := by
  obtain ⟨b, h1, h2⟩ := large_f l hl hb
  cases b with
  | true => exact .inl h1
  | false =>
    have := h2 rfl
    exact .inr ⟨h1, by omega, by omega, fun r hr => by have := len_lens hr; omega⟩
theorem at_f (l m : List (List S44)) (hl : l.length ≤ 1000) (hs : lens l ≤ 1000000) (hm : m.length ≤ 1000) (ht : lens m ≤ 1000000) : litmus_AtLeast.f l m = some (Li.atL (progOf l) (progOf m)) := by
  unfold litmus_AtLeast.f
  rw [if_pos ⟨⟨by rw [lens_flat]; exact hs, by omega⟩, by rw [lens_flat]; exact ht, by omega⟩]
theorem rat_f (l m : List (List S44)) (hl : l.length ≤ 1000) (hs : lens l ≤ 1000000) (hm : m.length ≤ 1000) (ht : lens m ≤ 1000000) : locklessref03_AtLeast.f l m = some (Li.atL (progOf l) (progOf m)) := by
  unfold locklessref03_AtLeast.f
  rw [if_pos ⟨⟨by rw [lens_flat]; exact hs, by omega⟩, by rw [lens_flat]; exact ht, by omega⟩, Li.atL_ratL]
theorem lsame_f (l m : List (List S44)) (hl : l.length ≤ 1000) (hs : lens l ≤ 1000000) (hm : m.length ≤ 1000) (ht : lens m ≤ 1000000) : litmus_Same.f l m = some (Li.all2 (Li.all2 Li.eqO) (progOf l) (progOf m)) := by
  unfold litmus_Same.f
  rw [if_pos ⟨⟨by rw [lens_flat]; exact hs, by omega⟩, by rw [lens_flat]; exact ht, by omega⟩]
/-- The law holds of every two programs. -/
theorem compares_true (l m : List (List S44)) (hl : l.length ≤ 17592186044416) (hb : ∀ r ∈ l, r.length ≤ 35184372088832) (hm : m.length ≤ 17592186044416) (hc : ∀ r ∈ m, r.length ≤ 35184372088832) : ∃ k, locklesslaw03_LitmusCompares.f k l m = some true := by
  refine ⟨l.length + m.length + 1002, ?_⟩
  unfold locklesslaw03_LitmusCompares.f
  have hj : locklesslaw03_LitmusCompares.j0 (l.length + m.length + 1001 + 1) true l m = some true := by
    rw [locklesslaw03_LitmusCompares.j0, if_pos rfl, sane_f _ (by omega)]; rfl
  rcases large_or l hl hb with h1 | ⟨h1, h2, h3, h4⟩
  · rw [h1 _ (by omega), Option.bind_some, if_pos rfl]; exact hj
  · rw [h1 _ (by omega), Option.bind_some, if_neg (by decide)]
    rcases large_or m hm hc with g1 | ⟨g1, g2, g3, g4⟩
    · rw [g1 _ (by omega), Option.bind_some]; exact hj
    · rw [g1 _ (by omega), Option.bind_some, show l.length + m.length + 1002 = l.length + m.length + 1000 + 1 + 1 from rfl, locklesslaw03_LitmusCompares.j0, if_neg (by decide)]
      rw [at_f l m (by omega) (by omega) (by omega) (by omega), Option.bind_some, rat_f l m (by omega) (by omega) (by omega) (by omega), Option.bind_some, if_neg (by simp), if_pos rfl]
      rw [lsame_f l m (by omega) (by omega) (by omega) (by omega), Option.bind_some, sameg_f l m (by omega) h4 _ (by rw [need_lens]; omega), Option.bind_some, if_neg (by simp)]
      rw [own_f l (by omega) h4 _ (by omega), Option.bind_some, lsame_f l l (by omega) (by omega) (by omega) (by omega), Option.bind_some, Li.eq_self, locklesslaw03_LitmusCompares.j1, if_neg (by decide)]
      rw [own_f l (by omega) h4 _ (by omega), Option.bind_some, at_f l l (by omega) (by omega) (by omega) (by omega), Option.bind_some, if_pos (Li.atL_self _), sane_f _ (by omega)]
      rfl
end Go.Proofs.Ytgfbgbclpeihdaa.XCm
