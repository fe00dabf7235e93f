/- What holds keep: nothing that a hold has comes back, and behind Rest just what is held waits: plain lemmas; no condition. -/
import Derived.Test.YtgdadefobhfkcaaHyP
namespace Go.Proofs.Ytgdadefobhfkcaa.Hy
set_option linter.unusedVariables false
set_option linter.unusedSimpArgs false
theorem backs_free (m : HM) (t : Int) : ∀ b ∈ backs m t, m.hs.contains b = false := by
  intro b hb
  obtain ⟨x, hx, rfl⟩ := List.mem_map.1 hb
  have := (List.mem_filter.1 hx).2
  unfold goes at this
  simpa using (Bool.and_eq_true_iff.1 this).2
theorem restTo_hs (m : HM) : ∀ k, (restTo m k).1.hs = m.hs ∧ ∀ b ∈ (restTo m k).2, m.hs.contains b = false := by
  intro k
  induction k with
  | zero => exact ⟨rfl, fun b hb => absurd hb (by simp [restTo])⟩
  | succ k ih =>
    obtain ⟨h1, h2⟩ := ih
    rw [restTo_succ]
    refine ⟨h1, fun b hb => ?_⟩
    rcases List.mem_append.1 hb with hb | hb
    · exact h2 b hb
    · have := backs_free (restTo m k).1 k b hb
      rwa [h1] at this
theorem restTo_left (m : HM) : ∀ k x, x ∈ (restTo m k).1.ws → x ∈ m.ws ∧ ((∃ j : Nat, j < k ∧ x.1 = (j : Int)) → m.hs.contains x.2 = true) := by
  intro k
  induction k with
  | zero => exact fun x hx => ⟨hx, fun ⟨j, hj, _⟩ => absurd hj (Nat.not_lt_zero _)⟩
  | succ k ih =>
    intro x hx
    rw [restTo_succ] at hx
    obtain ⟨hx1, hx2⟩ := List.mem_filter.1 hx
    obtain ⟨h1, h2⟩ := ih x hx1
    refine ⟨h1, fun ⟨j, hj, e⟩ => ?_⟩
    by_cases hjk : j < k
    · exact h2 ⟨j, hjk, e⟩
    · have : j = k := by omega
      subst this
      have hh := (restTo_hs m j).1
      rw [hh] at hx2
      unfold goes at hx2
      simpa [e] using hx2
/-- Nothing that comes back is held behind the deed. -/
theorem free_deed (m : HM) (d t k a : Int) : ∀ b ∈ (deed m d t k a).2.1, (deed m d t k a).1.hs.contains b = false := by
  unfold deed
  split
  · intro b hb; exact absurd hb (by simp [inD])
  split
  · unfold outD; split <;> (intro b hb; exact absurd hb (by simp))
  split
  · unfold holdD; split <;> (intro b hb; exact absurd hb (by simp))
  split
  · intro b hb; exact absurd hb (by simp [bornD])
  split
  · unfold retireD
    split
    · intro b hb; exact absurd hb (by simp)
    split
    · intro b hb; exact absurd hb (by simp)
    split
    · intro b hb; exact absurd hb (by simp)
    · exact backs_free (retired m t a) t
  split
  · intro b hb
    show (restTo m m.n).1.hs.contains b = false
    rw [(restTo_hs m m.n).1]
    exact (restTo_hs m m.n).2 b hb
  · intro b hb; exact absurd hb (by simp)
/-- Behind Rest what waits is held. -/
theorem rest_left {m : HM} (h : Good m) (t k a : Int) : ∀ x ∈ (deed m 5 t k a).1.ws, (deed m 5 t k a).1.hs.contains x.2 = true := by
  intro x hx
  have e : deed m 5 t k a = restD m := by unfold deed; rfl
  rw [e] at hx ⊢
  obtain ⟨h1, h2⟩ := restTo_left m m.n x hx
  show (restTo m m.n).1.hs.contains x.2 = true
  rw [(restTo_hs m m.n).1]
  have hb := h.thr x h1
  simp only [bad, Bool.or_eq_false_iff, decide_eq_false_iff_not] at hb
  exact h2 ⟨x.1.toNat, by omega, by omega⟩
/-- The holds behind a deed, as the law's own function tells them. -/
def holdsP (m : HM) (d t k a er : Int) : List Int :=
  if er ≠ 0 ∨ t < 0 ∨ (m.n : Int) ≤ t then m.hs
  else if d = 1 then (outed m t.toNat).hs
  else if d = 2 ∧ 0 ≤ k ∧ k < 3 then (held m t.toNat k.toNat a).hs
  else m.hs
theorem hs_deed (m : HM) (d t k a : Int) : (deed m d t k a).1.hs = holdsP m d t k a (deed m d t k a).2.2 := by
  unfold deed
  split
  · subst_vars; unfold holdsP inD; split <;> simp
  split
  · subst_vars
    unfold outD
    split
    · unfold holdsP; rw [if_pos (.inl (show (1 : Int) ≠ 0 by decide))]
    · rename_i hb
      simp only [bad, Bool.or_eq_true, decide_eq_true_eq, not_or] at hb
      unfold holdsP
      rw [if_neg (by simp; omega), if_pos rfl]
  split
  · subst_vars
    unfold holdD
    split
    · unfold holdsP; rw [if_pos (.inl (show (1 : Int) ≠ 0 by decide))]
    · rename_i hb
      simp only [bad, Bool.or_eq_true, decide_eq_true_eq, not_or] at hb
      unfold holdsP
      rw [if_neg (by simp; omega), if_neg (by decide), if_pos ⟨rfl, by omega, by omega⟩]
  split
  · subst_vars; unfold holdsP bornD; split <;> simp
  split
  · subst_vars
    unfold retireD
    have key : ∀ er, holdsP m 4 t k a er = m.hs := fun er => by unfold holdsP; split <;> simp
    split
    · rw [key]
    split
    · rw [key]
    split <;> (rw [key]; rfl)
  split
  · subst_vars
    have key : ∀ er, holdsP m 5 t k a er = m.hs := fun er => by unfold holdsP; split <;> simp
    rw [key]
    exact (restTo_hs m m.n).1
  · unfold holdsP
    split
    · rfl
    · first | rfl | (split <;> first | rfl | omega | (split <;> first | rfl | omega))
end Go.Proofs.Ytgdadefobhfkcaa.Hy
