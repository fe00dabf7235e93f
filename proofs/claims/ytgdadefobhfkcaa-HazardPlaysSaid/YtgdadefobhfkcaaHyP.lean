/- What a manager keeps behind any deeds: no address twice, each thread at most three times the threads: plain lemmas; no condition. -/
import Derived.Test.YtgdadefobhfkcaaHy12
namespace Go.Proofs.Ytgdadefobhfkcaa.Hy
open Go.RowKit

theorem nodup_le : ∀ (l m : List Int), l.Nodup → (∀ x ∈ l, x ∈ m) → l.length ≤ m.length := by
  intro l
  induction l with
  | nil => intro m _ _; simp
  | cons x r ih =>
    intro m hn hs
    have hx := hs x (by simp)
    rw [List.nodup_cons] at hn
    have h1 := ih (m.erase x) hn.2 (fun y hy => by
      have hne : y ≠ x := fun e => hn.1 (e ▸ hy)
      exact (List.mem_erase_of_ne hne).2 (hs y (by simp [hy])))
    have h2 := List.length_erase_of_mem hx
    have h3 : 0 < m.length := List.length_pos_of_mem hx
    simp only [List.length_cons]
    omega
/-- What holds of a manager behind any deeds. -/
structure Good (m : HM) : Prop where
  len : m.hs.length = m.n * 3
  nodup : (m.ws.map (·.2)).Nodup
  mine : ∀ t, mine m t ≤ 3 * m.n
  thr : ∀ x ∈ m.ws, bad m x.1 = false
theorem Good.new (n : Nat) : Good (newM n) := ⟨by simp [newM], by simp [newM], fun t => by simp [Hy.mine, newM], fun x hx => by simp [newM] at hx⟩
theorem filter_nodup (p : P2 → Bool) (l : List P2) (h : (l.map (·.2)).Nodup) : ((l.filter p).map (·.2)).Nodup :=
  List.Nodup.sublist ((List.filter_sublist).map _) h
theorem mine_filter (m : HM) (p : P2 → Bool) (t : Int) : mine { m with ws := m.ws.filter p } t ≤ mine m t := by
  unfold mine
  simp only
  rw [List.filter_filter]
  have h : (m.ws.filter fun x => (x.1 == t) && p x) = (m.ws.filter fun x => x.1 == t).filter p := by
    rw [List.filter_filter]
    congr 1
    funext x
    exact Bool.and_comm _ _
  rw [h]
  exact List.length_filter_le _ _
/-- A scan leaves a thread no more than the holds. -/
theorem mine_scanned (m : HM) (hl : m.hs.length = m.n * 3) (hn : (m.ws.map (·.2)).Nodup) (t : Int) : mine (scanned m t) t ≤ 3 * m.n := by
  have h1 : mine (scanned m t) t = (((scanned m t).ws.filter fun x => x.1 == t).map (·.2)).length := by simp [mine]
  rw [h1]
  refine Nat.le_trans (nodup_le _ m.hs (filter_nodup _ _ (filter_nodup _ _ hn)) ?_) (by omega)
  intro a ha
  obtain ⟨x, hx, rfl⟩ := List.mem_map.1 ha
  obtain ⟨hx1, hx2⟩ := List.mem_filter.1 hx
  obtain ⟨hx3, hx4⟩ := List.mem_filter.1 hx1
  simp only [goes, hx2, Bool.true_and, Bool.not_not] at hx4
  simpa using hx4
theorem Good.scan {m : HM} (hl : m.hs.length = m.n * 3) (hn : (m.ws.map (·.2)).Nodup) (ht : ∀ x ∈ m.ws, bad m x.1 = false) (t : Int) (hm : ∀ s, s ≠ t → Hy.mine m s ≤ 3 * m.n) : Good (scanned m t) := by
  refine ⟨hl, filter_nodup _ _ hn, fun s => ?_, fun x hx => ht x (List.mem_filter.1 hx).1⟩
  by_cases h : s = t
  · subst h
    exact mine_scanned m hl hn s
  · exact Nat.le_trans (mine_filter m _ s) (hm s h)
theorem Good.retire {m : HM} (h : Good m) (t a : Int) : Good (retireD m t a).1 := by
  unfold retireD
  by_cases h1 : (bad m t || decide (a < 1)) = true
  · rw [if_pos h1]; exact h
  · rw [if_neg h1]
    by_cases h2 : (m.ws.any fun x => x.2 == a) = true
    · rw [if_pos h2]; exact h
    · rw [if_neg h2]
      simp only [Bool.or_eq_true, decide_eq_true_eq, not_or] at h1
      have hb : bad m t = false := by simpa using h1.1
      have hn : ((retired m t a).ws.map (·.2)).Nodup := by
        show ((m.ws ++ [(t, a)]).map (·.2)).Nodup
        rw [List.map_append, List.nodup_append]
        refine ⟨h.nodup, by simp, fun x hx y hy => ?_⟩
        have hy2 : y = a := by simpa using hy
        subst hy2
        intro e
        subst e
        obtain ⟨z, hz, e⟩ := List.mem_map.1 hx
        exact h2 (List.any_eq_true.2 ⟨z, hz, by simp [e]⟩)
      have ht : ∀ x ∈ (retired m t a).ws, bad (retired m t a) x.1 = false := fun x hx => by
        rcases List.mem_append.1 hx with hx | hx
        · exact h.thr x hx
        · have e : x = (t, a) := by simpa using hx
          rw [e]; exact hb
      have hs : ∀ s, s ≠ t → Hy.mine (retired m t a) s ≤ 3 * m.n := fun s hs => by
        have e : Hy.mine (retired m t a) s = Hy.mine m s := by
          unfold Hy.mine retired
          simp only [List.filter_append, List.length_append]
          have : (t == s) = false := by simpa using fun e => hs e.symm
          simp [this]
        rw [e]; exact h.mine s
      by_cases h3 : Hy.mine (retired m t a) t ≤ 3 * m.n
      · rw [if_pos h3]
        refine ⟨h.len, hn, fun s => ?_, ht⟩
        by_cases e : s = t
        · subst e; exact h3
        · exact hs s e
      · rw [if_neg h3]
        exact Good.scan (m := retired m t a) h.len hn ht t hs
theorem Good.rest {m : HM} (h : Good m) : ∀ k, Good (restTo m k).1 := by
  intro k
  induction k with
  | zero => exact h
  | succ k ih =>
    rw [restTo_succ]
    exact Good.scan ih.len ih.nodup ih.thr k (fun s _ => ih.mine s)
theorem Good.deed {m : HM} (h : Good m) (d t k a : Int) : Good (Hy.deed m d t k a).1 := by
  unfold Hy.deed
  split
  · exact h
  · split
    · unfold outD
      split
      · exact h
      · exact ⟨by simpa [outed] using h.len, h.nodup, h.mine, h.thr⟩
    · split
      · unfold holdD
        split
        · exact h
        · exact ⟨by simpa [held] using h.len, h.nodup, h.mine, h.thr⟩
      · split
        · exact h
        · split
          · exact h.retire t a
          · split
            · exact h.rest _
            · exact h
theorem deed_n (m : HM) (d t k a : Int) : (Hy.deed m d t k a).1.n = m.n := by
  unfold Hy.deed inD outD holdD bornD retireD restD
  repeat' split
  all_goals first | rfl | exact (restTo_facts m _).1
theorem below_len (m : HM) (h : Good m) : ∀ k : Nat, (m.ws.filter fun x => decide (x.1 < (k : Int))).length ≤ k * (3 * m.n) := by
  intro k
  induction k with
  | zero =>
    have e : (m.ws.filter fun x => decide (x.1 < ((0 : Nat) : Int))) = [] := by
      rw [List.filter_eq_nil_iff]
      intro x hx
      have := h.thr x hx
      simp [bad] at this
      simp; omega
    rw [e]; simp
  | succ k ih =>
    have hp : ∀ l : List P2, (l.filter fun x => decide (x.1 < ((k + 1 : Nat) : Int))).length = (l.filter fun x => decide (x.1 < (k : Int))).length + (l.filter fun x => x.1 == (k : Int)).length := by
      intro l
      induction l with
      | nil => rfl
      | cons x r ih2 =>
        by_cases h1 : x.1 < (k : Int)
        · have h2 : (x.1 == (k : Int)) = false := by simp; omega
          have h3 : decide (x.1 < ((k + 1 : Nat) : Int)) = true := by simp; omega
          have h4 : decide (x.1 < (k : Int)) = true := by simp; omega
          simp only [List.filter_cons, h2, h3, h4, if_true, Bool.false_eq_true, if_false, List.length_cons]
          omega
        · have h4 : decide (x.1 < (k : Int)) = false := by simp; omega
          by_cases h5 : x.1 = (k : Int)
          · have h2 : (x.1 == (k : Int)) = true := by simp [h5]
            have h3 : decide (x.1 < ((k + 1 : Nat) : Int)) = true := by simp; omega
            simp only [List.filter_cons, h2, h3, h4, if_true, Bool.false_eq_true, if_false, List.length_cons]
            omega
          · have h2 : (x.1 == (k : Int)) = false := by simp [h5]
            have h3 : decide (x.1 < ((k + 1 : Nat) : Int)) = false := by simp; omega
            simp only [List.filter_cons, h2, h3, h4, Bool.false_eq_true, if_false]
            omega
    rw [Nat.add_mul, Nat.one_mul]
    exact Nat.le_trans (Nat.le_of_eq (hp m.ws)) (Nat.add_le_add ih (h.mine (k : Int)))
theorem Good.bound {m : HM} (h : Good m) : m.ws.length ≤ 3 * m.n * m.n := by
  have h1 := below_len m h m.n
  have e : (m.ws.filter fun x => decide (x.1 < (m.n : Int))) = m.ws := by
    rw [List.filter_eq_self]
    intro x hx
    have := h.thr x hx
    simp [bad] at this
    simp; omega
  rw [e] at h1
  rw [Nat.mul_comm (3 * m.n) m.n]
  exact h1
theorem play_good (n : Nat) (ds : List DD) : ∀ k, k ≤ ds.length → Good (playTo (newM n) ds k) ∧ (playTo (newM n) ds k).n = n := by
  intro k
  induction k with
  | zero => exact fun _ => ⟨Good.new n, rfl⟩
  | succ k ih =>
    intro hk
    obtain ⟨h1, h2⟩ := ih (by omega)
    rw [playTo_succ _ _ _ (by omega)]
    exact ⟨h1.deed _ _ _ _, (deed_n _ _ _ _ _).trans h2⟩
theorem play_bound (n : Nat) (ds : List DD) (k : Nat) (hk : k ≤ ds.length) : (playTo (newM n) ds k).ws.length ≤ 3 * n * n := by
  obtain ⟨h1, h2⟩ := play_good n ds k hk
  have := h1.bound
  rwa [h2] at this
end Go.Proofs.Ytgdadefobhfkcaa.Hy
