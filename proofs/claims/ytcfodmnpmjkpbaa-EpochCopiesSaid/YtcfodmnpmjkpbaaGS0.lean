/- The manager and the reference's go alike: plain lemmas; no condition. -/
import Derived.Test.YtcfodmnpmjkpbaaF8
namespace Go.Proofs.Ytcfodmnpmjkpbaa.Ep
open Go.Proofs.YtcfodmnpmjkpbaaW.PrintWords
set_option linter.unusedVariables false
set_option linter.unusedSimpArgs false
structure Sim (m : EM) (r : RM) : Prop where
  np : 0 < r.n
  n : m.th.length = r.n
  ep : m.ep = r.now
  pos : 0 ≤ r.now
  th : ∀ t, t < r.n → m.th.getD t 0 = if r.ins t = true then r.lo t else -1
  lo : ∀ t, t < r.n → r.ins t = true → 0 ≤ r.lo t
  ws : m.ws = r.its.map (fun p => (p.1, p.2.2))
theorem sim_new (n : Nat) (hn : 0 < n) : Sim (newM n) (rnew n) :=
  ⟨hn, by simp [newM, rnew], rfl, Int.le_refl _, fun t ht => by simp [newM, rnew, show t < n from ht], fun t ht h => by simp [rnew] at h, rfl⟩
theorem sim_bad {m : EM} {r : RM} (h : Sim m r) (t : Int) : bad m t = rbad r t := by unfold bad rbad; rw [h.n]
theorem sim_addrs {m : EM} {r : RM} (h : Sim m r) : addrs m = r.its.map (·.1) := by
  unfold addrs
  rw [h.ws, List.map_map]
  rfl
theorem sim_has {m : EM} {r : RM} (h : Sim m r) (a : Int) : (addrs m).contains a = rhas r a := by rw [sim_addrs h]; rfl
theorem sim_in {m : EM} {r : RM} (h : Sim m r) (t : Nat) (ht : t < r.n) : Sim (inned m t) (rinned r t) := by
  refine ⟨h.np, by show (m.th.set t m.ep).length = r.n; simpa using h.n, h.ep, h.pos, fun k hk => ?_, fun k hk hi => ?_, h.ws⟩
  · show (m.th.set t m.ep).getD k 0 = if (if k = t then true else r.ins k) = true then (if k = t then r.now else r.lo k) else -1
    have hl := h.n
    by_cases e : k = t
    · subst e
      have : k < m.th.length := by have : k < r.n := hk; omega
      simp [this, h.ep]
    · rw [List.getD_eq_getElem?_getD, List.getElem?_set_ne (fun e2 => e e2.symm), ← List.getD_eq_getElem?_getD, if_neg e, if_neg e]
      exact h.th k hk
  · show 0 ≤ (if k = t then r.now else r.lo k)
    have hi2 : (if k = t then true else r.ins k) = true := hi
    by_cases e : k = t
    · rw [if_pos e]; exact h.pos
    · rw [if_neg e] at hi2 ⊢
      exact h.lo k hk hi2
theorem sim_out {m : EM} {r : RM} (h : Sim m r) (t : Nat) (ht : t < r.n) : Sim (outed m t) (routed r t) := by
  refine ⟨h.np, by show (m.th.set t (-1)).length = r.n; simpa using h.n, h.ep, h.pos, fun k hk => ?_, fun k hk hi => ?_, h.ws⟩
  · show (m.th.set t (-1)).getD k 0 = if (if k = t then false else r.ins k) = true then r.lo k else -1
    have hl := h.n
    by_cases e : k = t
    · subst e
      have : k < m.th.length := by have : k < r.n := hk; omega
      simp [this]
    · rw [List.getD_eq_getElem?_getD, List.getElem?_set_ne (fun e2 => e e2.symm), ← List.getD_eq_getElem?_getD, if_neg e]
      exact h.th k hk
  · have hi2 : (if k = t then false else r.ins k) = true := hi
    by_cases e : k = t
    · rw [if_pos e] at hi2; exact absurd hi2 (by decide)
    · rw [if_neg e] at hi2
      exact h.lo k hk hi2
theorem sim_stuck {m : EM} {r : RM} (h : Sim m r) : stuck m = rstuck r := by
  have key : ∀ t, t < r.n → behind m.ep (m.th.getD t 0) = rbehind r t := by
    intro t ht
    rw [h.th t ht, h.ep]
    unfold behind rbehind
    cases hi : r.ins t with
    | true =>
      have := h.lo t ht hi
      simp only [if_true, Bool.true_and]
      have : (r.lo t != -1) = true := by rw [bne_iff_ne]; omega
      rw [this, Bool.true_and]
    | false => simp
  unfold stuck rstuck
  rw [Bool.eq_iff_iff, List.any_eq_true, List.any_eq_true]
  constructor
  · rintro ⟨x, hx, hb⟩
    obtain ⟨t, ht, rfl⟩ := List.mem_iff_getElem.1 hx
    have ht2 : t < r.n := by have := h.n; omega
    refine ⟨t, List.mem_range.2 ht2, ?_⟩
    rw [← key t ht2]
    simpa [ht] using hb
  · rintro ⟨t, ht, hb⟩
    have ht2 := List.mem_range.1 ht
    have ht3 : t < m.th.length := by have := h.n; omega
    refine ⟨m.th[t], List.getElem_mem ht3, ?_⟩
    rw [← key t ht2] at hb
    simpa [ht3] using hb
theorem sim_filter (E : Int) (l : List (Int × Int × Int)) : (l.map (fun p => (p.1, p.2.2))).filter (fun x => !goes E x) = (l.filter (fun p => !rgoes E p)).map (fun p => (p.1, p.2.2)) ∧ ((l.map (fun p => (p.1, p.2.2))).filter (goes E)).map (·.1) = (l.filter (rgoes E)).map (·.1) := by
  induction l with
  | nil => exact ⟨rfl, rfl⟩
  | cons p r ih =>
    have e : goes E (p.1, p.2.2) = rgoes E p := rfl
    obtain ⟨h1, h2⟩ := ih
    cases hq : rgoes E p with
    | true => simp [e, hq, h1, h2]
    | false => simp [e, hq, h1, h2]
theorem sim_tried {m : EM} {r : RM} (h : Sim m r) : Sim (tried m) (rtried r) ∧ tryBack m = rtryBack r := by
  have hs := sim_stuck h
  unfold tried rtried tryBack rtryBack
  rw [← hs]
  cases stuck m with
  | true => exact ⟨h, rfl⟩
  | false =>
    simp only [Bool.false_eq_true, if_false]
    obtain ⟨f1, f2⟩ := sim_filter (r.now + 1) r.its
    refine ⟨⟨h.np, h.n, by show m.ep + 1 = r.now + 1; rw [h.ep], by show 0 ≤ r.now + 1; have := h.pos; omega, h.th, h.lo, ?_⟩, ?_⟩
    · show m.ws.filter (fun x => !goes (m.ep + 1) x) = (r.its.filter fun x => !rgoes (r.now + 1) x).map _
      rw [h.ws, h.ep]
      exact f1
    · show (m.ws.filter (goes (m.ep + 1))).map (·.1) = (r.its.filter (rgoes (r.now + 1))).map (·.1)
      rw [h.ws, h.ep]
      exact f2
theorem sim_lined {m : EM} {r : RM} (h : Sim m r) (a t : Int) : Sim (lined m a) (rlined r a t) := by
  refine ⟨h.np, h.n, h.ep, h.pos, h.th, h.lo, ?_⟩
  show m.ws ++ [(a, m.ep)] = (r.its ++ [(a, t, r.now)]).map _
  rw [List.map_append, ← h.ws, h.ep]
  rfl
theorem sim_rested {m : EM} {r : RM} (h : Sim m r) : Sim (rested m) (rrestTo r 3).1 ∧ restBack m = (rrestTo r 3).2 := by
  obtain ⟨h1, b1⟩ := sim_tried h
  obtain ⟨h2, b2⟩ := sim_tried h1
  obtain ⟨h3, b3⟩ := sim_tried h2
  refine ⟨h3, ?_⟩
  unfold restBack
  rw [b1, b2, b3]
  simp [rrestTo]
theorem sim_deed {m : EM} {r : RM} (h : Sim m r) (d t k a : Int) : Sim (deed m d t k a).1 (rdeed r d t k a).1 ∧ (deed m d t k a).2 = (rdeed r d t k a).2 := by
  have hb := sim_bad h t
  unfold deed rdeed
  split
  · unfold inD rinD
    rw [hb]
    split
    · exact ⟨h, rfl⟩
    · rename_i hn
      simp only [rbad, Bool.or_eq_true, decide_eq_true_eq, not_or] at hn
      exact ⟨sim_in h _ (by omega), rfl⟩
  split
  · unfold outD routD
    rw [hb]
    split
    · exact ⟨h, rfl⟩
    · rename_i hn
      simp only [rbad, Bool.or_eq_true, decide_eq_true_eq, not_or] at hn
      exact ⟨sim_out h _ (by omega), rfl⟩
  split
  · refine ⟨h, ?_⟩
    unfold holdE rholdE
    rw [hb]
  split
  · refine ⟨h, ?_⟩
    unfold bornE rbornE
    rw [bad_zero (m := m) (by rw [h.n]; exact h.np), Bool.false_or]
    simp
  split
  · unfold retireD rretireD
    rw [hb, sim_has h a]
    split
    · exact ⟨h, rfl⟩
    split
    · exact ⟨h, rfl⟩
    · obtain ⟨p1, p2⟩ := sim_tried (sim_lined h a t)
      exact ⟨p1, by show (_, (0 : Int)) = (_, _); rw [p2]⟩
  split
  · obtain ⟨p1, p2⟩ := sim_rested h
    exact ⟨p1, by show (_, (0 : Int)) = (_, _); rw [p2]⟩
  · exact ⟨h, rfl⟩
end Go.Proofs.Ytcfodmnpmjkpbaa.Ep
