/- Delay is the reference's, of every list, thread and numbers, and keeps all threads' steps in order: what the printed law computes; no condition. -/
import Derived.Test.YtefhhaccoeljmaaPureSchedStops
import Derived.Test.YtefhhaccoeljmaaXS6
import Derived.Test.YtefhhaccoeljmaaXS7
namespace Go.Proofs.Ytefhhaccoeljmaa.XS
open Go.RowKit Go.Proofs.YtefhhaccoeljmaaW.PrintWords Go.Proofs.YtefhhaccoeljmaaW.PrintLast

def delayOk (l : List Int) (t fr by_ : Int) : Bool := validL l && thOk t && decide (0 ≤ fr ∧ fr ≤ 600) && decide (0 ≤ by_ ∧ by_ ≤ 600)
def delayL (l : List Int) (t fr by_ : Int) : List Int := (partedL t fr by_ l).2.1 ++ (partedL t fr by_ l).1
theorem progDelay (l : List Int) (t fr by_ : Int) (hl : l.length < 100000) : sched_Delay.f l t fr by_ = some (if delayOk l t fr by_ then (delayL l t fr by_, 0) else ([], 1)) := by
  unfold sched_Delay.f delayOk sched_Valid.f
  simp only [Option.bind_some]
  cases hv : validL l
  · simp
  · rw [isThread_some]
    simp only [Option.bind_some, if_true]
    cases ht : thOk t
    · simp
    · by_cases h0 : fr < 0
      · simp [h0, show ¬ (0 ≤ fr) by omega]
      · by_cases h6 : fr > 600
        · simp [h0, h6, show ¬ (fr ≤ 600) by omega]
        · by_cases g0 : by_ < 0
          · simp [h0, h6, g0, show ¬ (0 ≤ by_) by omega]
          · by_cases g6 : by_ > 600
            · simp [h0, h6, g0, g6, show ¬ (by_ ≤ 600) by omega]
            · rw [parted_some l t fr by_ hl]
              have hp := partedL_len t fr by_ l
              simp only [Option.bind_some]
              simp only [if_true]
              rw [if_neg h0, if_neg h6, if_neg g0, if_neg g6, if_pos (by omega)]
              simp [delayL, show 0 ≤ by_ by omega, show by_ ≤ 600 by omega, show 0 ≤ fr by omega, show fr ≤ 600 by omega]
/-- The reference's Delay, a step. -/
def dstep (t fr by_ : Int) (s : List Int × List Int × Int) (x : Int) : List Int × List Int × Int :=
  if thr x = t then (if fr ≤ s.2.2 ∧ s.2.2 < fr + by_ then (s.1, s.2.1 ++ [x], s.2.2 + 1) else (s.1 ++ [x], s.2.1, s.2.2 + 1)) else (s.1 ++ [x], s.2.1, s.2.2)
theorem refDelay_loop (l : List Int) (t fr by_ : Int) (k : Nat) (hf : 0 ≤ fr ∧ fr ≤ 600) (hb : 0 ≤ by_ ∧ by_ ≤ 600) (hl : l.length < 100000) (hk : l.length + 1 < k) :
    locklessref23_Delay.l0 k l t fr by_ [] [] 0 0 = some ((l.foldl (dstep t fr by_) ([], [], 0)).1 ++ (l.foldl (dstep t fr by_) ([], [], 0)).2.1, 0) := by
  have hw : wrap64 (fr + by_) = fr + by_ := wrap_id _ (by omega) (by omega)
  have := idx_loop0 (σ := List Int × List Int × Int) l (fun k s i => locklessref23_Delay.l0 k l t fr by_ s.1 s.2.1 s.2.2 i) (dstep t fr by_) (fun s => some (s.1 ++ s.2.1, 0)) 1 (fun s i => s.1.length + s.2.1.length ≤ i ∧ 0 ≤ s.2.2 ∧ s.2.2 ≤ i)
    (fun k s i hk hi hI => by
      obtain ⟨k, rfl⟩ : ∃ m, k = m + 1 := ⟨k - 1, by omega⟩
      obtain ⟨h1, h2, h3⟩ := hI
      show locklessref23_Delay.l0 (k + 1 + 1) l t fr by_ s.1 s.2.1 s.2.2 i = _
      rw [locklessref23_Delay.l0, if_pos (by omega), if_pos (by omega), thread_some]
      simp only [Option.bind_some]
      rw [wrap_succ i (by omega), wrap_id (s.2.2 + 1) (by omega) (by omega), hw]
      unfold dstep
      by_cases h : thr (rd l i) = t
      · rw [if_pos h, if_pos h]
        by_cases ha : s.2.2 ≥ fr
        · rw [if_pos ha]
          by_cases hc : s.2.2 < fr + by_
          · rw [if_pos hc, if_pos (by omega), if_pos ⟨ha, hc⟩]
          · rw [if_neg hc, if_pos (by omega), if_neg (fun g => hc g.2)]
        · rw [if_neg ha, if_pos (by omega), if_neg (fun g => ha g.1)]
      · rw [if_neg h, if_neg h, if_pos (by omega)])
    (fun s i hi hI => by
      obtain ⟨h1, h2, h3⟩ := hI
      unfold dstep
      split
      · split <;> simp <;> omega
      · simp; omega)
    (fun k s _ hI => by show locklessref23_Delay.l0 (k + 1) l t fr by_ s.1 s.2.1 s.2.2 _ = _; rw [locklessref23_Delay.l0, if_neg (by omega), if_pos (by omega)]) k ([], [], 0) hk (by simp)
  exact this
theorem parted_delay (l : List Int) (t fr by_ : Int) (hv : validL l = true) (hf : 0 ≤ fr) (hf6 : fr ≤ 600) : (partedL t fr by_ l).1 = (l.foldl (dstep t fr by_) ([], [], 0)).2.1 ∧ (partedL t fr by_ l).2.1 = (l.foldl (dstep t fr by_) ([], [], 0)).1 := by
  obtain ⟨h6, ht⟩ := valid_all l hv
  have := foldl_rel (pstep t fr by_) (dstep t fr by_) (fun s r i => s.1 = r.2.1 ∧ s.2.1 = r.1 ∧ s.2.2 = r.2.2 ∧ 0 ≤ s.2.2 ∧ s.2.2 ≤ (i : Int)) l ([], [], 0) ([], [], 0) 0
    (fun s r i x hx h0 hi hR => by
      obtain ⟨h1, h2, h3, h4, h5⟩ := hR
      unfold pstep dstep
      rw [who_thr x (ht x hx), ← h3, ← h2, ← h1]
      by_cases h : thr x = t
      · rw [if_pos h, if_pos h, wrap_id (s.2.2 - fr) (by omega) (by omega)]
        by_cases hn : fr ≤ s.2.2 ∧ s.2.2 < fr + by_
        · rw [if_pos ⟨hn.1, by omega⟩, if_pos hn]
          simp; omega
        · rw [if_neg (fun g => hn ⟨g.1, by omega⟩), if_neg hn]
          simp; omega
      · rw [if_neg h, if_neg h]
        simp; omega) (by simp)
  exact ⟨this.1, this.2.1⟩
theorem refDelay (l : List Int) (t fr by_ : Int) (k : Nat) (hl : l.length < 100000) (hk : l.length + 2 < k) : locklessref23_Delay.f k l t fr by_ = some (if delayOk l t fr by_ then (delayL l t fr by_, 0) else ([], 1)) := by
  obtain ⟨k, rfl⟩ : ∃ m, k = m + 1 := ⟨k - 1, by omega⟩
  unfold locklessref23_Delay.f delayOk
  rw [refValid l (k + 1) hl (by omega), isThread_ref, upTo_some, upTo_some]
  simp only [Option.bind_some]
  cases hv : validL l
  · simp [locklessref23_Delay.j0]
  · cases ht : thOk t
    · simp [locklessref23_Delay.j0]
    · by_cases hb : 0 ≤ fr ∧ fr ≤ 600
      · by_cases hc : 0 ≤ by_ ∧ by_ ≤ 600
        · have hp := parted_delay l t fr by_ hv hb.1 hb.2
          simp [locklessref23_Delay.j0, hb, hc, refDelay_loop l t fr by_ k hb hc hl (by omega), delayL, hp.1, hp.2]
        · simp [locklessref23_Delay.j0, hb, hc]
      · simp [locklessref23_Delay.j0, hb]
theorem delay_facts (l : List Int) (t fr by_ : Int) (hv : validL l = true) : (∀ x ∈ delayL l t fr by_, x ∈ l) ∧ (delayL l t fr by_).length ≤ l.length ∧
    (delayL l t fr by_).filter (fun x => !own t x) = l.filter (fun x => !own t x) ∧ ((delayL l t fr by_).filter (own t)).length = (l.filter (own t)).length := by
  obtain ⟨h6, ht⟩ := valid_all l hv
  have := foldl_rel (pstep t fr by_) (fun (r : List Int) x => r ++ [x]) (fun s r i => (∀ x ∈ s.1, x ∈ r) ∧ (∀ x ∈ s.2.1, x ∈ r) ∧ s.1.filter (fun x => !own t x) = [] ∧ s.2.1.filter (fun x => !own t x) = r.filter (fun x => !own t x) ∧ (s.1.filter (own t)).length + (s.2.1.filter (own t)).length = (r.filter (own t)).length) l ([], [], 0) [] 0
    (fun s r i x hx _ _ hR => by
      obtain ⟨h1, h2, h3, h4, h5⟩ := hR
      have hm : ∀ (q : List Int), (∀ y ∈ q, y ∈ r) → ∀ y ∈ q ++ [x], y ∈ r ++ [x] := fun q hq y hy => by
        rcases List.mem_append.1 hy with hy | hy
        · exact List.mem_append_left _ (hq y hy)
        · exact List.mem_append_right _ hy
      have hl : ∀ (q : List Int), (∀ y ∈ q, y ∈ r) → ∀ y ∈ q, y ∈ r ++ [x] := fun q hq y hy => List.mem_append_left _ (hq y hy)
      unfold pstep
      rw [who_thr x (ht x hx)]
      by_cases h : thr x = t
      · have ho : own t x = true := by simp [own, h]
        have e1 : ([x].filter fun x => !own t x) = [] := by simp [ho]
        have e2 : ([x].filter (own t)) = [x] := by simp [ho]
        rw [if_pos h]
        split
        · refine ⟨hm _ h1, hl _ h2, by rw [List.filter_append, e1, h3]; rfl, by rw [List.filter_append, e1, List.append_nil]; exact h4, ?_⟩
          rw [List.filter_append, List.filter_append, e2, List.length_append, List.length_append]; simp only [List.length_singleton]; omega
        · refine ⟨hl _ h1, hm _ h2, h3, by rw [List.filter_append, List.filter_append, h4], ?_⟩
          rw [List.filter_append, List.filter_append, e2, List.length_append, List.length_append]; simp only [List.length_singleton]; omega
      · have ho : own t x = false := by simp [own, h]
        have e1 : ([x].filter fun x => !own t x) = [x] := by simp [ho]
        have e2 : ([x].filter (own t)) = [] := by simp [ho]
        rw [if_neg h]
        refine ⟨hl _ h1, hm _ h2, h3, by rw [List.filter_append, List.filter_append, h4], ?_⟩
        rw [List.filter_append, List.filter_append, e2, List.append_nil, List.append_nil]; exact h5) (by simp)
  have e : ∀ (l acc : List Int), l.foldl (fun r x => r ++ [x]) acc = acc ++ l := by
    intro l
    induction l with
    | nil => intro acc; simp
    | cons x r ih => intro acc; rw [List.foldl_cons, ih]; simp
  rw [e, List.nil_append] at this
  obtain ⟨h1, h2, h3, h4, h5⟩ := this
  have hp := partedL_len t fr by_ l
  unfold delayL
  refine ⟨fun x hx => ?_, by rw [List.length_append]; omega, ?_, ?_⟩
  · rcases List.mem_append.1 hx with hx | hx
    · exact h2 x hx
    · exact h1 x hx
  · show List.filter _ ((partedL t fr by_ l).2.1 ++ (partedL t fr by_ l).1) = _
    rw [List.filter_append]
    show List.filter _ (List.foldl (pstep t fr by_) ([], [], 0) l).2.1 ++ List.filter _ (List.foldl (pstep t fr by_) ([], [], 0) l).1 = _
    rw [h3, h4, List.append_nil]
  · rw [List.filter_append, List.length_append]
    show (List.filter _ (List.foldl (pstep t fr by_) ([], [], 0) l).2.1).length + (List.filter _ (List.foldl (pstep t fr by_) ([], [], 0) l).1).length = _
    omega
theorem SchedDelays (l : List Int) (t fr by_ : Int) : ∃ k, locklesslaw23_SchedDelays.f k l t fr by_ = some true := by
  refine ⟨5001, ?_⟩
  unfold locklesslaw23_SchedDelays.f
  by_cases hl : (l.length : Int) > 1500
  · rw [if_pos hl, sane_some _ (by omega)]; rfl
  · rw [if_neg hl, progDelay l t fr by_ (by omega), copy_some l (by omega)]
    simp only [Option.bind_some]
    rw [refDelay l t fr by_ _ (by omega) (by omega)]
    simp only [Option.bind_some]
    simp only [if_true]
    by_cases hok : delayOk l t fr by_ = true
    · rw [if_pos hok]
      have hv := hok
      simp only [delayOk, Bool.and_eq_true, decide_eq_true_eq] at hv
      obtain ⟨⟨⟨hv, ht⟩, hf⟩, hb⟩ := hv
      obtain ⟨f1, f2, f3, f4⟩ := delay_facts l t fr by_ hv
      obtain ⟨v1, v2⟩ := valid_all l hv
      generalize delayL l t fr by_ = a at f1 f2 f3 f4 ⊢
      have hva : validL a = true := valid_of a (by omega) (fun x hx => v2 x (f1 x hx))
      rw [ints_self a _ (by omega) (by omega)]
      simp only [Option.bind_some]
      rw [locklesslaw23_SchedDelays.j0, if_neg (by decide), if_pos rfl, progTurns a t (by omega), progTurns l t (by omega)]
      simp only [Option.bind_some, turnsOk, hva, hv, ht, Bool.and_self, if_true]
      rw [if_pos (by omega), sched_Valid.f, hva]
      simp only [Option.bind_some, if_true]
      rw [others_some a t _ (by omega) (by omega), others_some l t _ (by omega) (by omega)]
      simp only [Option.bind_some]
      rw [f3, ints_self _ _ (Nat.lt_of_le_of_lt (List.length_filter_le _ _) (by omega)) (Nat.lt_of_le_of_lt (List.length_filter_le _ _) (by omega))]
      simp only [Option.bind_some, if_true]
      rw [sane_some _ (by omega)]
      rfl
    · rw [if_neg hok, ints_self _ _ (by simp) (by simp)]
      simp only [Option.bind_some]
      rw [locklesslaw23_SchedDelays.j0, if_neg (by decide), if_neg (by decide), sane_some _ (by omega)]
      rfl
end Go.Proofs.Ytefhhaccoeljmaa.XS
