/- Fair is the reference's, of every schedule and numbers, and what is fair in a window is fair in a longer one: what the printed law computes; no condition. -/
import Derived.Test.YtefhhaccoeljmaaSpB
import Derived.Test.YtefhhaccoeljmaaXS5
namespace Go.Proofs.Ytefhhaccoeljmaa.XS
open Go.RowKit Go.Proofs.YtefhhaccoeljmaaW.PrintWords Go.Proofs.YtefhhaccoeljmaaW.PrintLast

theorem win_valid (l : List Int) (fr win : Nat) (hv : validL l = true) : validL ((l.take (fr + win)).drop fr) = true := by
  obtain ⟨h6, ht⟩ := valid_all l hv
  exact valid_of _ (by rw [List.length_drop, List.length_take]; omega) fun x hx => ht x (List.mem_of_mem_take (List.mem_of_mem_drop hx))
theorem win_turns (l : List Int) (fr win t k : Nat) (hv : validL l = true) (ht : t < 4) (hk : l.length + 2 < k) : ∃ n : Int, locklessref23_Turns.f k ((l.take (fr + win)).drop fr) t = some (n, 0) ∧ (n = 0 ↔ winHas l fr win t = false) := by
  have hw := win_valid l fr win hv
  obtain ⟨h6, hth⟩ := valid_all _ hw
  have hlen : ((l.take (fr + win)).drop fr).length ≤ l.length := by rw [List.length_drop, List.length_take]; omega
  have h66 := (valid_all l hv).1
  refine ⟨(((((l.take (fr + win)).drop fr).filter (own t)).length : Nat) : Int), ?_, ?_⟩
  · rw [refTurns _ _ k (by omega) (by omega)]
    have hto : turnsOk ((l.take (fr + win)).drop fr) t = true := by
      simp only [turnsOk, hw, thOk, Bool.true_and, decide_eq_true_eq]
      omega
    rw [if_pos hto]
  · unfold winHas
    generalize (l.take (fr + win)).drop fr = m at hth
    clear h6 hw hlen hv hk
    induction m with
    | nil => simp
    | cons x r ih =>
      have ih := ih (fun y hy => hth y (List.mem_cons_of_mem _ hy))
      have hx := who_thr x (hth x List.mem_cons_self)
      rw [List.any_cons, hx]
      by_cases h : thr x = (t : Int)
      · have e : own t x = true := by simp [own, h]
        rw [List.filter_cons_of_pos e]
        simp [h]; omega
      · have e : ¬ (own t x = true) := by simp [own, h]
        rw [List.filter_cons_of_neg e, ih]
        simp [h]
theorem fair_inner (l : List Int) (th win : Nat) (hv : validL l = true) (h4 : th ≤ 4) (h6 : win ≤ 600) (fr : Nat) (hfr : fr + win ≤ l.length) : ∀ d k (t : Nat), th - t = d → t ≤ th → d + 610 < k → (∀ j, j < t → winHas l fr win j = true) →
    (fairAt l th win fr = false ∧ locklessref23_Fair.l1 k l th win fr t = some (false, 0)) ∨ (fairAt l th win fr = true ∧ locklessref23_Fair.l1 k l th win fr t = locklessref23_Fair.l0 (k - d - 1) l th win ((fr + 1 : Nat) : Int)) := by
  have hl := (valid_all l hv).1
  have hw : wrap64 ((fr : Int) + win) = ((fr + win : Nat) : Int) := by rw [wrap_id _ (by omega) (by omega)]; push_cast; rfl
  intro d
  induction d with
  | zero =>
    intro k t hd ht hk hall
    obtain ⟨k, rfl⟩ : ∃ m, k = m + 1 := ⟨k - 1, by omega⟩
    have : t = th := by omega
    subst this
    right
    refine ⟨fairAt_true l t win fr hall, ?_⟩
    rw [locklessref23_Fair.l1, if_neg (by omega), wrap_succ fr (by omega)]
    rfl
  | succ d ih =>
    intro k t hd ht hk hall
    obtain ⟨k, rfl⟩ : ∃ m, k = m + 1 := ⟨k - 1, by omega⟩
    obtain ⟨n, e1, e2⟩ := win_turns l fr win t k hv (by omega) (by omega)
    have step : locklessref23_Fair.l1 (k + 1) l th win fr t = if n = 0 then some (false, 0) else locklessref23_Fair.l1 k l th win fr ((t + 1 : Nat) : Int) := by
      rw [locklessref23_Fair.l1, if_pos (by omega), if_pos (by omega), hw, if_pos (by omega), if_pos (by omega), Int.toNat_natCast, Int.toNat_natCast, e1]
      simp only [Option.bind_some]
      rw [wrap_succ t (by omega)]
    rw [step]
    by_cases hn : n = 0
    · left
      rw [if_pos hn]
      refine ⟨?_, rfl⟩
      have hz := e2.1 hn
      rw [Bool.eq_false_iff]
      intro hc
      simp only [fairAt, List.all_eq_true, List.mem_range] at hc
      rw [hc t (by omega)] at hz
      exact absurd hz (by decide)
    · rw [if_neg hn]
      have hz : winHas l fr win t = true := by
        cases h : winHas l fr win t with
        | true => rfl
        | false => exact absurd (e2.2 h) hn
      have := ih k (t + 1) (by omega) (by omega) (by omega) (fun j hj => by
        by_cases e : j = t
        · rw [e]; exact hz
        · exact hall j (by omega))
      rw [show k + 1 - (d + 1) - 1 = k - d - 1 by omega]
      exact this
theorem fair_outer (l : List Int) (th win : Nat) (hv : validL l = true) (h1 : 1 ≤ th) (h4 : th ≤ 4) (hw1 : 1 ≤ win) (h6 : win ≤ 600) : ∀ d k (fr : Nat), l.length + 1 - win - fr = d → fr ≤ 601 → d * 10 + 700 < k → (∀ f, f < fr → f + win ≤ l.length → fairAt l th win f = true) → locklessref23_Fair.l0 k l th win fr = some (fairB l th win, 0) := by
  have hl := (valid_all l hv).1
  intro d
  induction d with
  | zero =>
    intro k fr hd hf6 hk hall
    obtain ⟨k, rfl⟩ : ∃ m, k = m + 1 := ⟨k - 1, by omega⟩
    have hb := fairB_true l th win (fun f hf => hall f (by omega) hf)
    rw [hb]
    have hw : ¬ (wrap64 ((fr : Int) + win) ≤ (l.length : Int)) := by
      rw [wrap_id _ (by omega) (by omega)]
      omega
    rw [locklessref23_Fair.l0, if_neg hw]
  | succ d ih =>
    intro k fr hd hf6 hk hall
    obtain ⟨k, rfl⟩ : ∃ m, k = m + 1 := ⟨k - 1, by omega⟩
    have hw : wrap64 ((fr : Int) + win) = ((fr + win : Nat) : Int) := by rw [wrap_id _ (by omega) (by omega)]; push_cast; rfl
    rw [locklessref23_Fair.l0, hw, if_pos (by omega)]
    have := fair_inner l th win hv h4 h6 fr (by omega) th k 0 (by omega) (by omega) (by omega) (fun j hj => absurd hj (Nat.not_lt_zero _))
    rw [show ((0 : Nat) : Int) = 0 from rfl] at this
    rcases this with ⟨a, b⟩ | ⟨a, b⟩
    · rw [b]
      have : fairB l th win = false := by
        rw [Bool.eq_false_iff]
        intro hc
        simp only [fairB, List.all_eq_true, List.mem_range] at hc
        rw [hc fr (by omega)] at a
        exact absurd a (by decide)
      rw [this]
    · rw [b]
      exact ih _ (fr + 1) (by omega) (by omega) (by omega) (fun f hf hfl => by
        by_cases e : f = fr
        · rw [e]; exact a
        · exact hall f (by omega) hfl)
theorem refFair (l : List Int) (a1 a2 : Int) (k : Nat) (hl : l.length < 2000) (hk : 9000 < k) : locklessref23_Fair.f k l a1 a2 = some (if fairOk l a1 a2 then (fairB l a1.toNat a2.toNat, 0) else (false, 1)) := by
  obtain ⟨k, rfl⟩ : ∃ m, k = m + 1 := ⟨k - 1, by omega⟩
  unfold locklessref23_Fair.f fairOk
  rw [refValid l (k + 1) (by omega) (by omega), upTo_some, upTo_some]
  simp only [Option.bind_some]
  cases hv : validL l
  · simp [locklessref23_Fair.j0]
  · have h6 := (valid_all l hv).1
    by_cases h1 : 1 ≤ a1 ∧ a1 ≤ 4
    · by_cases h2 : 1 ≤ a2 ∧ a2 ≤ 600
      · obtain ⟨th, rfl⟩ := Int.eq_ofNat_of_zero_le (show 0 ≤ a1 by omega)
        obtain ⟨win, rfl⟩ := Int.eq_ofNat_of_zero_le (show 0 ≤ a2 by omega)
        have := fair_outer l th win hv (by omega) (by omega) (by omega) (by omega) (l.length + 1 - win) k 0 (by omega) (by omega) (by omega) (fun f hf => absurd hf (Nat.not_lt_zero _))
        rw [show ((0 : Nat) : Int) = 0 from rfl] at this
        rw [decide_eq_true h1, decide_eq_true h2, if_pos rfl, if_pos rfl, locklessref23_Fair.j0, if_neg (by decide), this]
        simp; omega
      · have : ¬ (1 ≤ a1 ∧ a1 ≤ 4 ∧ 1 ≤ a2 ∧ a2 ≤ 600) := fun g => h2 g.2.2
        simp [h1, h2, locklessref23_Fair.j0]
    · have : ¬ (1 ≤ a1 ∧ a1 ≤ 4 ∧ 1 ≤ a2 ∧ a2 ≤ 600) := fun g => h1 ⟨g.1, g.2.1⟩
      simp [h1, this, locklessref23_Fair.j0]
theorem winHas_mono (l : List Int) (fr win t : Nat) (h : winHas l fr win t = true) : winHas l fr (win + 1) t = true := by
  unfold winHas at h ⊢
  rw [List.any_eq_true] at h ⊢
  obtain ⟨x, hx, hp⟩ := h
  refine ⟨x, ?_, hp⟩
  rw [List.mem_iff_getElem] at hx ⊢
  obtain ⟨i, hi, e⟩ := hx
  rw [List.length_drop, List.length_take] at hi
  refine ⟨i, by rw [List.length_drop, List.length_take]; omega, ?_⟩
  rw [← e, List.getElem_drop, List.getElem_drop, List.getElem_take, List.getElem_take]
theorem fairB_mono (l : List Int) (th win : Nat) (h : fairB l th win = true) : fairB l th (win + 1) = true := by
  refine fairB_true _ _ _ fun fr hfr => fairAt_true _ _ _ _ fun t ht => winHas_mono l fr win t ?_
  simp only [fairB, fairAt, List.all_eq_true, List.mem_range] at h
  exact h fr (by omega) t ht
theorem fairs (l : List Int) (a1 a2 : Int) : ∃ k, locklesslaw23_SchedFair.f k l a1 a2 = some true := by
  refine ⟨9502, ?_⟩
  unfold locklesslaw23_SchedFair.f
  by_cases hl : (l.length : Int) > 1500
  · rw [if_pos hl, sane_some _ (by omega)]; rfl
  · rw [if_neg hl, sched_Fair.f]
    simp only [Option.bind_some]
    rw [refFair l a1 a2 _ (by omega) (by omega)]
    simp only [Option.bind_some, bne_self_eq_false, Bool.false_eq_true, if_false]
    rw [locklesslaw23_SchedFair.j0, if_neg (by decide)]
    by_cases hok : fairOk l a1 a2 = true
    · rw [if_pos hok]
      have ho := hok
      simp only [fairOk, Bool.and_eq_true, decide_eq_true_eq] at ho
      obtain ⟨hv, h1, h4, h1', h6⟩ := ho
      by_cases hb : fairB l a1.toNat a2.toNat = true
      · rw [if_pos hb, locklesslaw23_SchedFair.j1]
        by_cases h600 : a2 < 600
        · have ho2 : fairOk l a1 (a2 + 1) = true := by
            simp only [fairOk, hv, Bool.true_and, decide_eq_true_eq]
            omega
          rw [decide_eq_true h600, if_pos rfl, wrap_id _ (by omega) (by omega), sched_Fair.f, if_pos ho2, show (a2 + 1).toNat = a2.toNat + 1 by omega, fairB_mono l _ _ hb]
          simp only [Option.bind_some, if_true]
          rw [sane_some _ (by omega)]
          rfl
        · rw [decide_eq_false h600, if_neg (by decide), sane_some _ (by omega)]
          rfl
      · rw [if_neg hb, locklesslaw23_SchedFair.j1, if_neg (by decide), sane_some _ (by omega)]
        rfl
    · rw [if_neg hok, if_neg (by decide), locklesslaw23_SchedFair.j1, if_neg (by decide), sane_some _ (by omega)]
      rfl
end Go.Proofs.Ytefhhaccoeljmaa.XS
namespace Go.Proofs.Ytefhhaccoeljmaa.Pure
theorem SchedFair : XS.locklesslaw23_SchedFair.Pure := fun l a b _ _ _ _ _ => XS.fairs l a b
end Go.Proofs.Ytefhhaccoeljmaa.Pure
