/- What Stop, Turns, Delay and the statement's own helper compute, as plain folds and filters; no condition. -/
import Derived.Test.YtefhhaccoeljmaaSpA
import Derived.Test.YtefhhaccoeljmaaXS3
import Derived.Test.YtefhhaccoeljmaaXS5
namespace Go.Proofs.Ytefhhaccoeljmaa.XS
open Go.RowKit Go.Proofs.YtefhhaccoeljmaaW.PrintWords Go.Proofs.YtefhhaccoeljmaaW.PrintLast

theorem foldl_rel {σ τ : Type} (f : σ → Int → σ) (g : τ → Int → τ) (R : σ → τ → Nat → Prop) : ∀ (l : List Int) (s : σ) (t : τ) (n : Nat),
    (∀ s t i x, x ∈ l → n ≤ i → i < n + l.length → R s t i → R (f s x) (g t x) (i + 1)) → R s t n → R (l.foldl f s) (l.foldl g t) (n + l.length) := by
  intro l
  induction l with
  | nil => intro s t n _ h; exact h
  | cons x r ih =>
    intro s t n h h0
    rw [List.foldl_cons, List.foldl_cons, List.length_cons, show n + (r.length + 1) = n + 1 + r.length by omega]
    exact ih _ _ (n + 1) (fun s t i y hy h1 h2 hR => h s t i y (List.mem_cons_of_mem _ hy) (by omega) (by simp; omega) hR) (h s t n x (List.mem_cons_self) (by omega) (by simp) h0)
theorem foldl_filter (p : Int → Bool) : ∀ (l acc : List Int), l.foldl (fun acc x => if p x then acc ++ [x] else acc) acc = acc ++ l.filter p := by
  intro l
  induction l with
  | nil => intro acc; simp
  | cons x r ih =>
    intro acc
    rw [List.foldl_cons, ih]
    by_cases h : p x <;> simp [h]
theorem foldl_count (p : Int → Bool) : ∀ (l : List Int) (n : Int), l.foldl (fun n x => if p x then n + 1 else n) n = n + (l.filter p).length := by
  intro l
  induction l with
  | nil => intro n; simp
  | cons x r ih =>
    intro n
    rw [List.foldl_cons, ih]
    by_cases h : p x
    · simp [h]; omega
    · simp [h]
def own (t : Int) (x : Int) : Bool := thr x == t
/-- locklesslaw23.others is a filter. -/
theorem others_some (l : List Int) (t : Int) (k : Nat) (hl : l.length < 100000) (hk : l.length + 1 < k) : locklesslaw23_others.f k l t = some (l.filter fun x => !own t x) := by
  unfold locklesslaw23_others.f
  have := idx_loop0 (σ := List Int) l (fun k s i => locklesslaw23_others.l0 k l t s i) (fun acc x => if !own t x then acc ++ [x] else acc) (fun s => some s) 1 (fun s i => s.length ≤ i)
    (fun k s i hk hi hI => by
      obtain ⟨k, rfl⟩ : ∃ m, k = m + 1 := ⟨k - 1, by omega⟩
      show locklesslaw23_others.l0 (k + 1 + 1) l t s i = _
      rw [locklesslaw23_others.l0, if_pos (by omega), if_pos (by omega), thread_some]
      simp only [Option.bind_some]
      rw [wrap_succ i (by omega)]
      by_cases h : thr (rd l i) = t
      · rw [if_pos h]; simp [own, h]
      · rw [if_neg h, if_pos (by omega)]; simp [own, h])
    (fun s i hi hI => by
      split
      · rw [List.length_append, List.length_singleton]; omega
      · omega)
    (fun k s _ _ => by show locklesslaw23_others.l0 (k + 1) l t s _ = _; rw [locklesslaw23_others.l0, if_neg (by omega)]) k [] hk (by simp)
  rw [show locklesslaw23_others.l0 k l t [] 0 = _ from this, foldl_filter, List.nil_append]

/-- The reference's Stop, a step. -/
def rstep (t by_ : Int) (s : List Int × Int) (x : Int) : List Int × Int :=
  if thr x = t then (if s.2 + 1 > by_ then (s.1, s.2 + 1) else (s.1 ++ [x], s.2 + 1)) else (s.1 ++ [x], s.2)
def thOk (t : Int) : Bool := decide (0 ≤ t ∧ t < 4)
theorem isThread_some (t : Int) : sched_isThread.f t = some (thOk t) := by
  unfold sched_isThread.f thOk
  by_cases h : 0 ≤ t
  · rw [if_pos h]; simp [h]
  · rw [if_neg h]; simp [h]
theorem isThread_ref (t : Int) : locklessref23_isThread.f t = some (thOk t) := by
  unfold locklessref23_isThread.f thOk
  by_cases h : 0 ≤ t
  · rw [if_pos h]; simp [h]
  · rw [if_neg h]; simp [h]
theorem upTo_some (n lo hi : Int) : locklessref23_upTo.f n lo hi = some (decide (lo ≤ n ∧ n ≤ hi)) := by
  unfold locklessref23_upTo.f
  by_cases h : lo ≤ n
  · rw [if_pos h]; simp [h]
  · rw [if_neg h]; simp [h]
theorem refStop_loop (l : List Int) (t by_ : Int) (k : Nat) (hl : l.length < 100000) (hk : l.length + 1 < k) : locklessref23_Stop.l0 k l t by_ [] 0 0 = some ((l.foldl (rstep t by_) ([], 0)).1, 0) := by
  have := idx_loop0 (σ := List Int × Int) l (fun k s i => locklessref23_Stop.l0 k l t by_ s.1 s.2 i) (rstep t by_) (fun s => some (s.1, 0)) 1 (fun s i => s.1.length ≤ i ∧ 0 ≤ s.2 ∧ s.2 ≤ i)
    (fun k s i hk hi hI => by
      obtain ⟨k, rfl⟩ : ∃ m, k = m + 1 := ⟨k - 1, by omega⟩
      obtain ⟨h1, h2, h3⟩ := hI
      show locklessref23_Stop.l0 (k + 1 + 1) l t by_ s.1 s.2 i = _
      rw [locklessref23_Stop.l0, if_pos (by omega), if_pos (by omega), thread_some]
      simp only [Option.bind_some]
      rw [wrap_succ i (by omega), wrap_id (s.2 + 1) (by omega) (by omega)]
      unfold rstep
      by_cases h : thr (rd l i) = t
      · rw [if_pos h, if_pos h]
        by_cases hb : s.2 + 1 > by_
        · rw [if_pos hb, if_pos hb]
        · rw [if_neg hb, if_neg hb, if_pos (by omega)]
      · rw [if_neg h, if_neg h, if_pos (by omega)])
    (fun s i hi hI => by
      obtain ⟨h1, h2, h3⟩ := hI
      unfold rstep
      split
      · split <;> simp <;> omega
      · simp; omega)
    (fun k s _ _ => by show locklessref23_Stop.l0 (k + 1) l t by_ s.1 s.2 _ = _; rw [locklessref23_Stop.l0, if_neg (by omega)]) k ([], 0) hk (by simp)
  exact this
def stopOk (l : List Int) (t by_ : Int) : Bool := validL l && thOk t && decide (0 ≤ by_ ∧ by_ ≤ 600)
theorem refStop (l : List Int) (t by_ : Int) (k : Nat) (hl : l.length < 100000) (hk : l.length + 2 < k) : locklessref23_Stop.f k l t by_ = some (if stopOk l t by_ then ((l.foldl (rstep t by_) ([], 0)).1, 0) else ([], 1)) := by
  obtain ⟨k, rfl⟩ : ∃ m, k = m + 1 := ⟨k - 1, by omega⟩
  unfold locklessref23_Stop.f stopOk
  rw [refValid l (k + 1) hl (by omega), isThread_ref, upTo_some]
  simp only [Option.bind_some]
  cases hv : validL l
  · simp [locklessref23_Stop.j0]
  · cases ht : thOk t
    · simp [locklessref23_Stop.j0]
    · by_cases hb : 0 ≤ by_ ∧ by_ ≤ 600
      · simp [locklessref23_Stop.j0, hb, refStop_loop l t by_ k hl (by omega)]
      · simp [locklessref23_Stop.j0, hb]
/-- On a valid list parted's left is the reference's Stop. -/
theorem parted_stop (l : List Int) (t by_ : Int) (hv : validL l = true) (hb : 0 ≤ by_) : (partedL t by_ 600 l).2.1 = (l.foldl (rstep t by_) ([], 0)).1 := by
  obtain ⟨h6, ht⟩ := valid_all l hv
  have := foldl_rel (pstep t by_ 600) (rstep t by_) (fun s r i => s.2.1 = r.1 ∧ s.2.2 = r.2 ∧ 0 ≤ s.2.2 ∧ s.2.2 ≤ (i : Int)) l ([], [], 0) ([], 0) 0
    (fun s r i x hx h0 hi hR => by
      obtain ⟨h1, h2, h3, h4⟩ := hR
      unfold pstep rstep
      rw [who_thr x (ht x hx), ← h2, ← h1]
      by_cases h : thr x = t
      · rw [if_pos h, if_pos h]
        by_cases hn : by_ ≤ s.2.2
        · rw [if_pos ⟨hn, by rw [wrap_id _ (by omega) (by omega)]; omega⟩, if_pos (by omega)]
          simp; omega
        · rw [if_neg (fun g => hn g.1), if_neg (by omega)]
          simp; omega
      · rw [if_neg h, if_neg h]
        simp; omega) (by simp)
  exact this.1
theorem parted_some (l : List Int) (t a b : Int) (hl : l.length < 100000) : sched_parted.f l t a b = some ((partedL t a b l).1, (partedL t a b l).2.1) := by
  unfold sched_parted.f
  rw [if_pos (show l.length ≤ 1000000 by omega)]
theorem progStop (l : List Int) (t by_ : Int) (hl : l.length < 100000) : sched_Stop.f l t by_ = some (if stopOk l t by_ then ((l.foldl (rstep t by_) ([], 0)).1, 0) else ([], 1)) := by
  unfold sched_Stop.f stopOk sched_Valid.f
  simp only [Option.bind_some]
  cases hv : validL l
  · simp
  · rw [isThread_some]
    simp only [Option.bind_some, if_true]
    cases ht : thOk t
    · simp
    · by_cases h0 : by_ < 0
      · simp [h0, show ¬ (0 ≤ by_) by omega]
      · by_cases h6 : by_ > 600
        · simp [h0, h6, show ¬ (by_ ≤ 600) by omega]
        · rw [parted_some l t by_ 600 hl]
          simp only [Option.bind_some]
          rw [parted_stop l t by_ hv (by omega)]
          simp [h0, h6, show 0 ≤ by_ by omega, show by_ ≤ 600 by omega]
/-- Turns: how many steps are a thread's own. -/
theorem parted_own (l : List Int) (t : Int) (hv : validL l = true) : (partedL t 0 600 l).1 = l.filter (own t) := by
  obtain ⟨h6, ht⟩ := valid_all l hv
  have := foldl_rel (pstep t 0 600) (fun (r : List Int) x => if own t x then r ++ [x] else r) (fun s r i => s.1 = r ∧ 0 ≤ s.2.2 ∧ s.2.2 ≤ (i : Int)) l ([], [], 0) [] 0
    (fun s r i x hx h0 hi hR => by
      obtain ⟨h1, h3, h4⟩ := hR
      unfold pstep
      rw [who_thr x (ht x hx), ← h1]
      by_cases h : thr x = t
      · rw [if_pos h, if_pos ⟨by omega, by rw [wrap_id _ (by omega) (by omega)]; omega⟩]
        simp [own, h]; omega
      · rw [if_neg h]
        simp [own, h]; omega) (by simp)
  rw [foldl_filter] at this
  exact this.1
def turnsOk (l : List Int) (t : Int) : Bool := validL l && thOk t
theorem progTurns (l : List Int) (t : Int) (hl : l.length < 100000) : sched_Turns.f l t = some (if turnsOk l t then (((l.filter (own t)).length : Int), 0) else (0, 1)) := by
  unfold sched_Turns.f turnsOk sched_Valid.f
  simp only [Option.bind_some]
  cases hv : validL l
  · simp
  · rw [isThread_some]
    simp only [Option.bind_some, if_true]
    cases ht : thOk t
    · simp
    · rw [parted_some l t 0 600 hl]
      simp only [Option.bind_some]
      rw [parted_own l t hv]
      simp
theorem refTurns_loop (l : List Int) (t : Int) (k : Nat) (hl : l.length < 100000) (hk : l.length + 1 < k) : locklessref23_Turns.l0 k l t 0 0 = some (((l.filter (own t)).length : Int), 0) := by
  have := idx_loop0 (σ := Int) l (fun k s i => locklessref23_Turns.l0 k l t s i) (fun n x => if own t x then n + 1 else n) (fun s => some (s, 0)) 1 (fun s i => 0 ≤ s ∧ s ≤ i)
    (fun k s i hk hi hI => by
      obtain ⟨k, rfl⟩ : ∃ m, k = m + 1 := ⟨k - 1, by omega⟩
      show locklessref23_Turns.l0 (k + 1 + 1) l t s i = _
      rw [locklessref23_Turns.l0, if_pos (by omega), if_pos (by omega), thread_some]
      simp only [Option.bind_some]
      rw [wrap_succ i (by omega), wrap_id (s + 1) (by omega) (by omega)]
      by_cases h : thr (rd l i) = t
      · rw [if_pos h]; simp [own, h]
      · rw [if_neg h]; simp [own, h])
    (fun s i hi hI => by split <;> omega)
    (fun k s _ _ => by show locklessref23_Turns.l0 (k + 1) l t s _ = _; rw [locklessref23_Turns.l0, if_neg (by omega)]) k 0 hk (by simp)
  rw [foldl_count, Int.zero_add] at this
  exact this
theorem refTurns (l : List Int) (t : Int) (k : Nat) (hl : l.length < 100000) (hk : l.length + 2 < k) : locklessref23_Turns.f k l t = some (if turnsOk l t then (((l.filter (own t)).length : Int), 0) else (0, 1)) := by
  obtain ⟨k, rfl⟩ : ∃ m, k = m + 1 := ⟨k - 1, by omega⟩
  unfold locklessref23_Turns.f turnsOk
  rw [refValid l (k + 1) hl (by omega), isThread_ref]
  simp only [Option.bind_some]
  cases hv : validL l
  · simp [locklessref23_Turns.j0]
  · cases ht : thOk t
    · simp [locklessref23_Turns.j0]
    · simp [locklessref23_Turns.j0, refTurns_loop l t k hl (by omega)]
end Go.Proofs.Ytefhhaccoeljmaa.XS
