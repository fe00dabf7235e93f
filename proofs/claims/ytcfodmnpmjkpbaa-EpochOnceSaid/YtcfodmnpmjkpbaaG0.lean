/- What the epoch manager's acts keep: plain lemmas; no condition. -/
import Derived.Test.YtcfodmnpmjkpbaaF8
namespace Go.Proofs.Ytcfodmnpmjkpbaa.Ep
open Go.Proofs.YtcfodmnpmjkpbaaW.PrintWords
set_option linter.unusedVariables false
set_option linter.unusedSimpArgs false
theorem flt_len (p : P2 → Bool) (l : List P2) : (l.filter fun x => !p x).length + (l.filter p).length = l.length := by
  induction l with
  | nil => rfl
  | cons x r ih => cases h : p x <;> simp [h] <;> omega
/-- Addresses once each; epochs in order, and none behind the present one. -/
structure Good (m : EM) : Prop where
  nd : (m.ws.map (·.1)).Nodup
  ord : m.ws.Pairwise (fun a b => a.2 ≤ b.2)
  le : ∀ x ∈ m.ws, x.2 ≤ m.ep
theorem good_new (n : Nat) : Good (newM n) := ⟨by simp [newM], by simp [newM], by simp [newM]⟩
theorem good_raised {m : EM} (h : Good m) : Good (raised m) := by
  refine ⟨?_, h.ord.sublist List.filter_sublist, fun x hx => ?_⟩
  · exact h.nd.sublist (List.filter_sublist.map _)
  · have := h.le x (List.mem_filter.1 hx).1
    show x.2 ≤ m.ep + 1
    omega
theorem good_tried {m : EM} (h : Good m) : Good (tried m) := by
  unfold tried
  split
  · exact h
  · exact good_raised h
theorem good_lined {m : EM} {a : Int} (h : Good m) (ha : (addrs m).contains a = false) : Good (lined m a) := by
  have hn : a ∉ m.ws.map (·.1) := fun hm => by
    have : (addrs m).contains a = true := List.contains_iff_mem.2 hm
    rw [this] at ha
    exact absurd ha (by decide)
  refine ⟨?_, ?_, fun x hx => ?_⟩
  · unfold lined
    simp only [List.map_append, List.map_cons, List.map_nil]
    rw [List.nodup_append]
    refine ⟨h.nd, by simp, fun x hx y hy => ?_⟩
    rw [List.mem_singleton] at hy
    subst hy
    intro e
    exact hn (e ▸ hx)
  · unfold lined
    rw [List.pairwise_append]
    refine ⟨h.ord, by simp, fun x hx y hy => ?_⟩
    rw [List.mem_singleton] at hy
    subst hy
    exact h.le x hx
  · unfold lined at hx
    rcases List.mem_append.1 hx with hx | hx
    · exact h.le x hx
    · rw [List.mem_singleton] at hx
      subst hx
      exact Int.le_refl _
theorem good_rested {m : EM} (h : Good m) : Good (rested m) := good_tried (good_tried (good_tried h))
theorem good_deed {m : EM} (h : Good m) (d t k a : Int) : Good (deed m d t k a).1 := by
  unfold deed
  split
  · unfold inD
    split
    · exact h
    · exact ⟨h.nd, h.ord, h.le⟩
  split
  · unfold outD
    split
    · exact h
    · exact ⟨h.nd, h.ord, h.le⟩
  split
  · exact h
  split
  · exact h
  split
  · unfold retireD
    split
    · exact h
    split
    · exact h
    · rename_i hn
      exact good_tried (good_lined h (by simpa using hn))
  split
  · exact good_rested h
  · exact h
theorem good_play (n : Nat) (ds : List DD) : ∀ k, k ≤ ds.length → Good (playTo (newM n) ds k) := by
  intro k
  induction k with
  | zero => intro _; exact good_new n
  | succ k ih =>
    intro hk
    rw [playTo_succ _ _ _ (by omega)]
    exact good_deed (ih (by omega)) _ _ _ _
/-- Nobody is inside. -/
def Empty (m : EM) : Prop := ∀ x ∈ m.th, x = -1
theorem empty_stuck {m : EM} (h : Empty m) : stuck m = false := by
  unfold stuck
  rw [List.any_eq_false]
  intro x hx
  rw [h x hx]
  simp [behind]
theorem empty_tried {m : EM} (h : Empty m) : tried m = raised m ∧ tryBack m = raisedBack m ∧ Empty (raised m) := by
  have := empty_stuck h
  refine ⟨by unfold tried; rw [this]; rfl, by unfold tryBack; rw [this]; rfl, h⟩
theorem split_ord (c : Int) : ∀ l : List P2, l.Pairwise (fun a b => a.2 ≤ b.2) → l.filter (fun x => decide (x.2 ≤ c)) ++ l.filter (fun x => !decide (x.2 ≤ c)) = l := by
  intro l
  induction l with
  | nil => intro _; rfl
  | cons x r ih =>
    intro h
    rw [List.pairwise_cons] at h
    by_cases hx : x.2 ≤ c
    · have := ih h.2
      simp only [List.filter_cons, hx, decide_true, if_true, Bool.not_true, Bool.false_eq_true, if_false, List.cons_append]
      rw [this]
    · have h1 : r.filter (fun x => decide (x.2 ≤ c)) = [] := by
        rw [List.filter_eq_nil_iff]
        intro y hy
        have := h.1 y hy
        simp
        omega
      have h2 : r.filter (fun x => !decide (x.2 ≤ c)) = r := by
        rw [List.filter_eq_self]
        intro y hy
        have := h.1 y hy
        simp
        omega
      simp only [List.filter_cons, hx, decide_false, Bool.false_eq_true, if_false, Bool.not_false, if_true]
      rw [h1, h2]
      rfl
theorem rest_empty {m : EM} (h : Empty m) (hg : Good m) : restBack m = addrs m ∧ (rested m).ws = [] ∧ restBack (rested m) = [] ∧ (rested m).th = m.th := by
  obtain ⟨t1, t2, t3⟩ := empty_tried h
  obtain ⟨t4, t5, t6⟩ := empty_tried t3
  obtain ⟨t7, t8, t9⟩ := empty_tried t6
  obtain ⟨s1, s2, s3⟩ := empty_tried t9
  obtain ⟨s4, s5, s6⟩ := empty_tried s3
  obtain ⟨s7, s8, s9⟩ := empty_tried s6
  have w2 : (raised (raised m)).ws = [] := by
    show (m.ws.filter _).filter _ = []
    rw [List.filter_eq_nil_iff]
    intro x hx
    have := hg.le x (List.mem_filter.1 hx).1
    show ¬ (!goes (m.ep + 1 + 1) x) = true
    unfold goes
    simp
    omega
  have b2 : raisedBack (raised m) = (raised m).ws.map (·.1) := by
    unfold raisedBack
    congr 1
    rw [List.filter_eq_self]
    intro x hx
    have := hg.le x (List.mem_filter.1 hx).1
    show goes (m.ep + 1 + 1) x = true
    unfold goes
    simp
    omega
  have hnil : ∀ m' : EM, m'.ws = [] → raisedBack m' = [] ∧ (raised m').ws = [] := fun m' e => by simp [raisedBack, raised, e]
  have hr : rested m = raised (raised (raised m)) := by unfold rested; rw [t1, t4, t7]
  obtain ⟨b3, w3⟩ := hnil _ w2
  obtain ⟨b4, w4⟩ := hnil _ w3
  obtain ⟨b5, w5⟩ := hnil _ w4
  obtain ⟨b6, w6⟩ := hnil _ w5
  refine ⟨?_, by rw [hr]; exact w3, ?_, by rw [hr]; rfl⟩
  · unfold restBack
    rw [t1, t2, t4, t5, t8, b3, b2, List.append_nil]
    unfold raisedBack addrs
    rw [← List.map_append]
    congr 1
    have := split_ord (m.ep + 1 - 2) m.ws hg.ord
    exact this
  · rw [hr]
    unfold restBack
    rw [s1, s2, s4, s5, s8, b4, b5, b6]
    rfl
def outs (m : EM) : Nat → EM
  | 0 => m
  | k + 1 => outed (outs m k) k
theorem outs_facts (m : EM) : ∀ k, (outs m k).th.length = m.th.length ∧ (outs m k).ws = m.ws ∧ (outs m k).ep = m.ep ∧ ∀ j, j < k → j < m.th.length → (outs m k).th.getD j 0 = -1 := by
  intro k
  induction k with
  | zero => exact ⟨rfl, rfl, rfl, fun j h => absurd h (Nat.not_lt_zero _)⟩
  | succ k ih =>
    obtain ⟨h1, h2, h3, h4⟩ := ih
    refine ⟨by simp [outs, outed, h1], h2, h3, fun j hj hl => ?_⟩
    show ((outs m k).th.set k (-1)).getD j 0 = -1
    by_cases e : j = k
    · subst e
      simp [h1, hl]
    · have := h4 j (by omega) hl
      rw [List.getD_eq_getElem?_getD, List.getElem?_set_ne (fun e2 => e e2.symm), ← List.getD_eq_getElem?_getD]
      exact this
theorem outs_empty (m : EM) : Empty (outs m m.th.length) := by
  intro x hx
  obtain ⟨h1, h2, h3, h4⟩ := outs_facts m m.th.length
  obtain ⟨j, hj, rfl⟩ := List.mem_iff_getElem.1 hx
  have := h4 j (by omega) (by omega)
  simpa [hj] using this
theorem outs_good {m : EM} (h : Good m) (k : Nat) : Good (outs m k) := by
  obtain ⟨h1, h2, h3, h4⟩ := outs_facts m k
  exact ⟨by rw [h2]; exact h.nd, by rw [h2]; exact h.ord, by rw [h2, h3]; exact h.le⟩
/-- Thread t is inside since epoch e. -/
structure Inside (m : EM) (t : Nat) (e : Int) : Prop where
  lt : t < m.th.length
  at_ : m.th.getD t 0 = e
  pos : 0 ≤ e
  ep : m.ep = e ∨ m.ep = e + 1
theorem inside_tried {m : EM} {t : Nat} {e : Int} (h : Inside m t e) : Inside (tried m) t e := by
  unfold tried
  split
  · exact h
  · rename_i hs
    refine ⟨h.lt, h.at_, h.pos, ?_⟩
    rcases h.ep with h1 | h1
    · exact .inr (by show m.ep + 1 = _; omega)
    · exfalso
      apply hs
      unfold stuck
      rw [List.any_eq_true]
      have hl := h.lt
      refine ⟨m.th[t], List.getElem_mem hl, ?_⟩
      have ha := h.at_
      have hp := h.pos
      have : m.th[t] = e := by simpa [hl] using ha
      rw [this]
      unfold behind
      simp
      omega
theorem tried_ep (m : EM) : m.ep ≤ (tried m).ep := (tried_facts m).2.2.1
theorem set_other (l : List Int) (i j : Nat) (x : Int) (h : i ≠ j) : (l.set i x).getD j 0 = l.getD j 0 := by
  rw [List.getD_eq_getElem?_getD, List.getElem?_set_ne h, ← List.getD_eq_getElem?_getD]
theorem inside_deed {m : EM} {t : Nat} {e : Int} (h : Inside m t e) (d u k a : Int) (hn : ¬ (u = (t : Int) ∧ d ≤ 1)) : Inside (deed m d u k a).1 t e ∧ m.ep ≤ (deed m d u k a).1.ep := by
  unfold deed
  split
  · rename_i hd
    unfold inD
    split
    · exact ⟨h, Int.le_refl _⟩
    · rename_i hb
      have hu : u.toNat ≠ t := fun e2 => by
        simp only [bad, Bool.or_eq_true, decide_eq_true_eq, not_or] at hb
        exact hn ⟨by omega, by omega⟩
      exact ⟨⟨by simpa [inned] using h.lt, (set_other _ _ _ _ hu).trans h.at_, h.pos, h.ep⟩, Int.le_refl _⟩
  split
  · rename_i hd
    unfold outD
    split
    · exact ⟨h, Int.le_refl _⟩
    · rename_i hb
      have hu : u.toNat ≠ t := fun e2 => by
        simp only [bad, Bool.or_eq_true, decide_eq_true_eq, not_or] at hb
        exact hn ⟨by omega, by omega⟩
      exact ⟨⟨by simpa [outed] using h.lt, (set_other _ _ _ _ hu).trans h.at_, h.pos, h.ep⟩, Int.le_refl _⟩
  split
  · exact ⟨h, Int.le_refl _⟩
  split
  · exact ⟨h, Int.le_refl _⟩
  split
  · unfold retireD
    split
    · exact ⟨h, Int.le_refl _⟩
    split
    · exact ⟨h, Int.le_refl _⟩
    · have hl : Inside (lined m a) t e := ⟨h.lt, h.at_, h.pos, h.ep⟩
      exact ⟨inside_tried hl, tried_ep (lined m a)⟩
  split
  · refine ⟨inside_tried (inside_tried (inside_tried h)), ?_⟩
    have h1 := tried_ep m
    have h2 := tried_ep (tried m)
    have h3 := tried_ep (tried (tried m))
    show m.ep ≤ (tried (tried (tried m))).ep
    omega
  · exact ⟨h, Int.le_refl _⟩
theorem inside_in {m : EM} {t : Nat} (ht : t < m.th.length) (h0 : 0 ≤ m.ep) : Inside (inned m t) t m.ep :=
  ⟨by simpa [inned] using ht, by show (m.th.set t m.ep).getD t 0 = _; simp [ht], h0, .inl rfl⟩
/-- An address that was retired while t was inside waits. -/
structure Kept0 (m : EM) (t : Nat) (e a : Int) : Prop where
  ins : Inside m t e
  mem : (a, e) ∈ m.ws
  good : Good m
theorem only_one {l : List P2} {a e f : Int} (h : (l.map (·.1)).Nodup) (h1 : (a, e) ∈ l) (h2 : (a, f) ∈ l) : f = e := by
  induction l with
  | nil => cases h1
  | cons x r ih =>
    rw [List.map_cons, List.nodup_cons] at h
    rcases List.mem_cons.1 h1 with h1 | h1
    · rcases List.mem_cons.1 h2 with h2 | h2
      · rw [← h1] at h2
        injection h2
      · exfalso
        apply h.1
        rw [← h1]
        exact List.mem_map.2 ⟨(a, f), h2, rfl⟩
    · rcases List.mem_cons.1 h2 with h2 | h2
      · exfalso
        apply h.1
        rw [← h2]
        exact List.mem_map.2 ⟨(a, e), h1, rfl⟩
      · exact ih h.2 h1 h2
theorem kept_tried {m : EM} {t : Nat} {e a : Int} (h : Kept0 m t e a) : Kept0 (tried m) t e a ∧ a ∉ tryBack m := by
  have hi := inside_tried h.ins
  have hle : (tried m).ep ≤ e + 1 := by rcases hi.ep with h | h <;> omega
  unfold tryBack
  cases hs : stuck m with
  | true =>
    have e1 : tried m = m := by unfold tried; rw [hs]; rfl
    rw [e1]
    exact ⟨h, by simp⟩
  | false =>
    have e1 : tried m = raised m := by unfold tried; rw [hs]; rfl
    rw [e1] at hle hi ⊢
    have hep : m.ep + 1 ≤ e + 1 := hle
    refine ⟨⟨hi, ?_, good_raised h.good⟩, ?_⟩
    · refine List.mem_filter.2 ⟨h.mem, ?_⟩
      unfold goes
      simp
      omega
    · simp only [Bool.false_eq_true, if_false]
      intro hm
      obtain ⟨⟨x, f⟩, hx, he⟩ := List.mem_map.1 hm
      simp only at he
      subst he
      obtain ⟨hx1, hx2⟩ := List.mem_filter.1 hx
      have := only_one h.good.nd h.mem hx1
      subst this
      unfold goes at hx2
      simp at hx2
      omega
theorem kept_rested {m : EM} {t : Nat} {e a : Int} (h : Kept0 m t e a) : Kept0 (rested m) t e a ∧ a ∉ restBack m := by
  obtain ⟨h1, n1⟩ := kept_tried h
  obtain ⟨h2, n2⟩ := kept_tried h1
  obtain ⟨h3, n3⟩ := kept_tried h2
  refine ⟨h3, fun hm => ?_⟩
  unfold restBack at hm
  rcases List.mem_append.1 hm with hm | hm
  · rcases List.mem_append.1 hm with hm | hm
    · exact n1 hm
    · exact n2 hm
  · exact n3 hm
theorem kept_lined {m : EM} {t : Nat} {e a b : Int} (h : Kept0 m t e a) (hb : (addrs m).contains b = false) : Kept0 (lined m b) t e a :=
  ⟨⟨h.ins.lt, h.ins.at_, h.ins.pos, h.ins.ep⟩, List.mem_append_left _ h.mem, good_lined h.good hb⟩
theorem kept_deed {m : EM} {t : Nat} {e a : Int} (h : Kept0 m t e a) (d u k b : Int) (hn : ¬ (u = (t : Int) ∧ d ≤ 1)) : Kept0 (deed m d u k b).1 t e a ∧ a ∉ (deed m d u k b).2.1 := by
  obtain ⟨hi, _⟩ := inside_deed h.ins d u k b hn
  have hg := good_deed h.good d u k b
  unfold deed at hi hg ⊢
  split
  · rename_i hd
    subst hd
    simp only [if_true] at hi hg
    unfold inD at hi hg ⊢
    split
    · exact ⟨h, by simp⟩
    · rename_i hb
      rw [if_neg hb] at hi hg
      exact ⟨⟨hi, h.mem, hg⟩, by simp⟩
  split
  · rename_i h0 hd
    subst hd
    rw [if_neg h0, if_pos rfl] at hi hg
    unfold outD at hi hg ⊢
    split
    · exact ⟨h, by simp⟩
    · rename_i hb
      rw [if_neg hb] at hi hg
      exact ⟨⟨hi, h.mem, hg⟩, by simp⟩
  split
  · exact ⟨h, by simp⟩
  split
  · exact ⟨h, by simp⟩
  split
  · unfold retireD
    split
    · exact ⟨h, by simp⟩
    split
    · exact ⟨h, by simp⟩
    · rename_i hx
      exact kept_tried (kept_lined h (by simpa using hx))
  split
  · exact kept_rested h
  · exact ⟨h, by simp⟩
/-- Behind In of t: a retirement that is taken. -/
theorem kept_start {m : EM} {t : Nat} {a : Int} (ht : t < m.th.length) (h0 : 0 ≤ m.ep) (hg : Good m) (ha : (addrs m).contains a = false) : Kept0 (tried (lined (inned m t) a)) t m.ep a ∧ a ∉ tryBack (lined (inned m t) a) := by
  have hi := inside_in ht h0
  refine kept_tried ⟨⟨hi.lt, hi.at_, hi.pos, hi.ep⟩, ?_, good_lined (m := inned m t) ⟨hg.nd, hg.ord, hg.le⟩ ha⟩
  show (a, m.ep) ∈ (inned m t).ws ++ [(a, m.ep)]
  simp
theorem mem_addrs {m : EM} {t : Nat} {e a : Int} (h : Kept0 m t e a) : (addrs m).contains a = true := List.contains_iff_mem.2 (List.mem_map.2 ⟨_, h.mem, rfl⟩)
end Go.Proofs.Ytcfodmnpmjkpbaa.Ep
