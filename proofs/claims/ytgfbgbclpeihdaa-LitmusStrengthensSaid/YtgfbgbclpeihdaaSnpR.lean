/- What the printed functions of LitmusChecks compute, in plain words: no condition. -/
import Derived.Test.YtgfbgbclpeihdaaSnpA
namespace Go.Proofs.Ytgfbgbclpeihdaa.XSn
open Go.RowKit Go.Proofs.YtgfbgbclpeihdaaW.PrintWords Go.Proofs.YtgfbgbclpeihdaaW.PrintLast Go.Proofs.YtgfbgbclpeihdaaW.PrintMore
set_option linter.unusedVariables false
set_option linter.unusedSimpArgs false
set_option maxRecDepth 100000
theorem large_l0 (l : List (List S44)) (hl : l.length ≤ 17592186044416) (hb : ∀ r ∈ l, r.length ≤ 35184372088832) : ∀ (m i x : Nat), l.length - i = m → i ≤ l.length → x ≤ 1125899906842624 →
    ∃ b, (∀ k, m < k → locklesslaw03_Large.l0 k x i l = some b) ∧ (b = false → x + lens (l.drop i) < 60)
  | 0, i, x, hm, hi, hx => by
    refine ⟨decide ((x : Int) ≥ 60), fun k hk => ?_, fun h => ?_⟩
    · obtain ⟨k, rfl, _⟩ := succ_fuel hk
      unfold locklesslaw03_Large.l0
      rw [if_neg (by omega)]
    · have := of_decide_eq_false h
      rw [List.drop_of_length_le (by omega)]
      simp [lens]; omega
  | m + 1, i, x, hm, hi, hx => by
    have hlt : i < l.length := by omega
    by_cases h60 : (x : Int) < 60
    · have hr := hb l[i] (List.getElem_mem hlt)
      obtain ⟨b, h1, h2⟩ := large_l0 l hl hb m (i + 1) (x + (l[i]).length) (by omega) (by omega) (by omega)
      refine ⟨b, fun k hk => ?_, fun h => ?_⟩
      · obtain ⟨k, rfl, hk'⟩ := succ_fuel hk
        unfold locklesslaw03_Large.l0
        rw [if_pos (by omega), if_pos h60, if_pos (by omega), L2_at hlt, w64 (by omega) (by omega), w64 (by omega) (by omega)]
        have := h1 k (by omega)
        rw [← this]
        congr 1
      · have := h2 h
        rw [lens_drop hlt]; omega
    · refine ⟨true, fun k hk => ?_, fun h => by cases h⟩
      obtain ⟨k, rfl, hk'⟩ := succ_fuel hk
      unfold locklesslaw03_Large.l0
      rw [if_pos (by omega), if_neg h60]
      simp; omega
def need (l : List (List S44)) : Nat := (l.map fun r => r.length + 2).sum
theorem need_drop {l : List (List S44)} {i : Nat} (h : i < l.length) : need (l.drop i) = (l[i]).length + 2 + need (l.drop (i + 1)) := by
  rw [List.drop_eq_getElem_cons h]; simp only [need, List.map_cons, List.sum_cons]
/-- The example of the chapter holds. -/
theorem sane_f (k : Nat) (hk : 20 ≤ k) : locklesslaw03_sane.f k = some true := by
  have h1 : locklesslaw03_Buffers.f 0 = some [[⟨1, 0, 1, 0, 0⟩, ⟨0, 1, 0, 0, 0⟩], [⟨1, 1, 1, 0, 0⟩, ⟨0, 0, 0, 0, 0⟩]] := rfl
  have h2 : litmus_Interleavings.f [[⟨1, 0, 1, 0, 0⟩, ⟨0, 1, 0, 0, 0⟩], [⟨1, 1, 1, 0, 0⟩, ⟨0, 0, 0, 0, 0⟩]] = some ([[0, 1, 1, 1, 0], [1, 0, 1, 1, 0], [1, 1, 1, 1, 0]], 0) := by
    unfold litmus_Interleavings.f
    rw [if_pos (by decide)]
    show some (if Li.checkL [[⟨1, 0, 1, 0, 0⟩, ⟨0, 1, 0, 0, 0⟩], [⟨1, 1, 1, 0, 0⟩, ⟨0, 0, 0, 0, 0⟩]] = 0 then Li.sortU (Li.outAll [[⟨1, 0, 1, 0, 0⟩, ⟨0, 1, 0, 0, 0⟩], [⟨1, 1, 1, 0, 0⟩, ⟨0, 0, 0, 0, 0⟩]]) else [], Li.checkL [[⟨1, 0, 1, 0, 0⟩, ⟨0, 1, 0, 0, 0⟩], [⟨1, 1, 1, 0, 0⟩, ⟨0, 0, 0, 0, 0⟩]]) = _
    rw [Li.sane_check, Li.sane_plain, if_pos rfl]
  have h3 : locklessref01_Lists.f k [[0, 1, 1, 1, 0], [1, 0, 1, 1, 0], [1, 1, 1, 1, 0]] [[0, 1, 1, 1, 0], [1, 0, 1, 1, 0], [1, 1, 1, 1, 0]] = some true :=
    at_rounds (g := fun k => locklessref01_Lists.f k [[0, 1, 1, 1, 0], [1, 0, 1, 1, 0], [1, 1, 1, 1, 0]] [[0, 1, 1, 1, 0], [1, 0, 1, 1, 0], [1, 1, 1, 1, 0]]) (fun k => locklessref01_Lists.mono _ _ k) hk (by decide +kernel)
  unfold locklesslaw03_sane.f
  rw [h1, Option.bind_some, h2, Option.bind_some]
  dsimp only
  rw [if_pos rfl, h3]
  rfl
theorem check_f (l : List (List S44)) (hl : l.length ≤ 1000) (hs : lens l ≤ 1000000) : litmus_Check.f l = some (Li.checkL (progOf l)) := by
  unfold litmus_Check.f
  rw [if_pos ⟨by rw [lens_flat]; exact hs, by omega⟩]
theorem large_f (l : List (List S44)) (hl : l.length ≤ 17592186044416) (hb : ∀ r ∈ l, r.length ≤ 35184372088832) : ∃ b, (∀ k, l.length < k → locklesslaw03_Large.f k l = some b) ∧ (b = false → l.length + lens l < 60) := by
  obtain ⟨b, h1, h2⟩ := large_l0 l hl hb l.length 0 l.length (by omega) (by omega) (by omega)
  refine ⟨b, fun k hk => h1 k hk, fun h => ?_⟩
  have := h2 h
  rwa [List.drop_zero] at this
theorem len_lens {l : List (List S44)} {r : List S44} (h : r ∈ l) : r.length ≤ lens l := by
  induction l with
  | nil => cases h
  | cons a l ih =>
    have e : lens (a :: l) = a.length + lens l := by simp [lens]
    rcases List.mem_cons.1 h with rfl | h
    · omega
    · have := ih h; omega
theorem need_lens (l : List (List S44)) : need l = lens l + 2 * l.length := by
  induction l with
  | nil => rfl
  | cons a l ih =>
    have e : lens (a :: l) = a.length + lens l := by simp [lens]
    have e2 : need (a :: l) = a.length + 2 + need l := by simp [need]
    rw [e, e2, ih, List.length_cons]; omega
end Go.Proofs.Ytgfbgbclpeihdaa.XSn
