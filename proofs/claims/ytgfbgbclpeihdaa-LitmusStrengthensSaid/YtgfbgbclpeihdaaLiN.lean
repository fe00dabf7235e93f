/- litmus.Interleavings, walked whole: plain lemmas; no condition. -/
import Derived.Test.YtgfbgbclpeihdaaLiM
namespace Go.Proofs.Ytgfbgbclpeihdaa.Li
open Go.RowKit Go.Proofs.YtgfbgbclpeihdaaW.PrintWords Go.Proofs.YtgfbgbclpeihdaaW.PrintLast Go.Proofs.YtgfbgbclpeihdaaW.PrintMore
set_option linter.unusedVariables false
set_option linter.unusedSimpArgs false
set_option maxHeartbeats 8000000
set_option maxRecDepth 100000
theorem getD_eq {es : List RowE} {k : Nat} (h : k < es.length) : es.getD k dE = es[k] := by simp [h]
theorem keepE_sub (es : List RowE) : ∀ k, k ≤ es.length → ∀ e ∈ keepE es k, ∃ i, ∃ h : i < es.length, i < k ∧ e = es[i]
  | 0, _, e, he => by simp [keepE] at he
  | k + 1, hk, e, he => by
    have he : e ∈ keepE es k ++ (if k = 0 ∨ (es.getD k dE).2.2 ≠ (es.getD (k - 1) dE).2.2 then [es.getD k dE] else []) := he
    rcases List.mem_append.1 he with he | he
    · obtain ⟨i, hi, h1, h2⟩ := keepE_sub es k (by omega) e he
      exact ⟨i, hi, by omega, h2⟩
    · split at he
      · rw [List.mem_singleton] at he
        exact ⟨k, by omega, by omega, by rw [he, getD_eq]⟩
      · simp at he
theorem keepE_mem (es : List RowE) : ∀ k, k ≤ es.length → ∀ i (h : i < es.length), i < k → ∃ e ∈ keepE es k, e.2.2 = (es[i]).2.2
  | 0, _, i, h, hk => absurd hk (Nat.not_lt_zero _)
  | k + 1, hk, i, h, hik => by
    have step : ∀ j (hj : j < es.length), j < k → ∃ e ∈ keepE es (k + 1), e.2.2 = (es[j]).2.2 := fun j hj hjk => by
      obtain ⟨e, he, h2⟩ := keepE_mem es k (by omega) j hj hjk
      exact ⟨e, List.mem_append.2 (.inl he), h2⟩
    by_cases hik2 : i < k
    · exact step i h hik2
    · obtain rfl : i = k := by omega
      by_cases hc : i = 0 ∨ (es.getD i dE).2.2 ≠ (es.getD (i - 1) dE).2.2
      · refine ⟨es[i], ?_, rfl⟩
        show es[i] ∈ keepE es i ++ _
        rw [if_pos hc, getD_eq h]
        simp
      · have h0 : i ≠ 0 := fun e => hc (.inl e)
        have he : (es.getD i dE).2.2 = (es.getD (i - 1) dE).2.2 := Classical.byContradiction (fun e => hc (.inr e))
        rw [getD_eq h, getD_eq (show i - 1 < es.length by omega)] at he
        obtain ⟨e, h1, h2⟩ := step (i - 1) (by omega) (by omega)
        exact ⟨e, h1, h2.trans he.symm⟩
theorem keepE_asc (es : List RowE) (hs : es.Pairwise (fun a b => ¬ cmpL b.2.2 a.2.2 < 0)) : ∀ k, k ≤ es.length → AscL ((keepE es k).map (·.2.2))
  | 0, _ => by simp [keepE, AscL]
  | k + 1, hk => by
    have ih := keepE_asc es hs k (by omega)
    show AscL ((keepE es k ++ (if k = 0 ∨ (es.getD k dE).2.2 ≠ (es.getD (k - 1) dE).2.2 then [es.getD k dE] else [])).map (·.2.2))
    split
    · rename_i hc
      unfold AscL at *
      rw [List.map_append, List.pairwise_append]
      refine ⟨ih, by simp, fun a ha b hb => ?_⟩
      obtain ⟨e, he, rfl⟩ := List.mem_map.1 ha
      obtain ⟨i, hi, hik, rfl⟩ := keepE_sub es k (by omega) e he
      simp only [List.map_cons, List.map_nil, List.mem_singleton] at hb
      subst hb
      rw [getD_eq (show k < es.length by omega)] at *
      have h1 := List.pairwise_iff_getElem.1 hs i k hi (by omega) hik
      have hne : k ≠ 0 := by omega
      rcases hc with hc | hc
      · exact absurd hc hne
      · rw [getD_eq (show k - 1 < es.length by omega)] at hc
        have hn := cmpL_neg (es[i]).2.2 (es[k]).2.2
        by_cases h2 : cmpL (es[i]).2.2 (es[k]).2.2 < 0
        · exact h2
        · exfalso
          have h3 : cmpL (es[i]).2.2 (es[k]).2.2 = 0 := by omega
          have h4 := cmpL_zero h3
          by_cases h5 : i = k - 1
          · subst h5; exact hc h4.symm
          · have h6 := List.pairwise_iff_getElem.1 hs i (k - 1) hi (by omega) (by omega)
            have h7 := List.pairwise_iff_getElem.1 hs (k - 1) k (by omega) (by omega) (by omega)
            have hn2 := cmpL_neg (es[k - 1]).2.2 (es[k]).2.2
            rw [h4] at h6
            have h8 : cmpL (es[k - 1]).2.2 (es[k]).2.2 = 0 := by omega
            exact hc (cmpL_zero h8).symm
    · rw [List.append_nil]; exact ih
theorem goesL_ne (m : Mem) (t : Nat) (x : LOp) : goesL m t x ≠ [] ∧ ∀ y ∈ goesL m t x, y.nx = m.nx.set t (m.nx.getD t 0 + 1) := by
  unfold goesL
  split
  · simp
  split
  · simp
  split
  · simp
  split
  · split <;> simp
  · simp
theorem fromT_ne (P : List (List LOp)) (rec : Mem → List (List Int)) (m : Mem) (hrec : ∀ t, t < P.length → m.nx.getD t 0 ≠ (P.getD t []).length → ∀ y, y.nx = m.nx.set t (m.nx.getD t 0 + 1) → rec y ≠ []) : ∀ k t, t + k = P.length → fromT P rec m k t true ≠ []
  | 0, t, h => by simp [fromT]
  | k + 1, t, h => by
    unfold fromT
    split
    · exact fromT_ne P rec m hrec k (t + 1) (by omega)
    · rename_i hd
      obtain ⟨h1, h2⟩ := goesL_ne m t ((P.getD t []).getD (m.nx.getD t 0) default)
      intro e
      have e1 := (List.append_eq_nil_iff.1 e).1
      rw [List.flatMap_eq_nil_iff] at e1
      obtain ⟨y, l, hl⟩ := List.exists_cons_of_ne_nil h1
      have hy : y ∈ goesL m t ((P.getD t []).getD (m.nx.getD t 0) default) := by rw [hl]; exact List.mem_cons_self
      exact hrec t (by omega) hd y (h2 y hy) (e1 y hy)
theorem outsL_ne (P : List (List LOp)) (hP : P.length ≤ 3) : ∀ f (m : Mem), m.nx.length = 3 → (∀ k, k < 3 → nAt m.nx k ≤ (P.getD k []).length) → rem P m.nx < f → outsL P f m ≠ []
  | 0, m, _, _, h => absurd h (Nat.not_lt_zero _)
  | f + 1, m, hn, hb, h => by
    refine fromT_ne P (outsL P f) m (fun t ht hd y hy => ?_) P.length 0 (by omega)
    have ht3 : t < 3 := by omega
    have hlt : nAt m.nx t < (P.getD t []).length := by have := hb t ht3; unfold nAt at *; omega
    have hy' : y.nx = m.nx.set t (nAt m.nx t + 1) := hy
    refine outsL_ne P hP f y (by rw [hy, List.length_set]; exact hn) (fun k hk => ?_) (by rw [hy']; have := rem_set (P := P) ht3 hn hlt; omega)
    rw [hy', nAt_set hn ht3 hk]
    split
    · rename_i e; subst e; omega
    · exact hb k hk
end Go.Proofs.Ytgfbgbclpeihdaa.Li
