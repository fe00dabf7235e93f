/- Valid, Turns, Switches and Plain are the reference's, and all threads' turns together are all steps: what the printed law computes; no condition. -/
import Derived.Test.YtefhhaccoeljmaaPureSchedStops
import Derived.Test.YtefhhaccoeljmaaXS9
import Derived.Test.YtefhhaccoeljmaaXS10
namespace Go.Proofs.Ytefhhaccoeljmaa.XS
open Go.RowKit Go.Proofs.YtefhhaccoeljmaaW.PrintWords Go.Proofs.YtefhhaccoeljmaaW.PrintLast

/-- Is the step at j followed by another thread's? -/
def sw (l : List Int) (j : Nat) : Bool := thr (rd l (j : Int)) != thr (rd l ((j + 1 : Nat) : Int))
def cnt (l : List Int) : Nat → Nat → Int
  | 0, _ => 0
  | d + 1, i => (if sw l i then 1 else 0) + cnt l d (i + 1)
theorem cnt_le (l : List Int) : ∀ d i, 0 ≤ cnt l d i ∧ cnt l d i ≤ d := by
  intro d
  induction d with
  | zero => intro i; simp [cnt]
  | succ d ih =>
    intro i
    have := ih (i + 1)
    unfold cnt
    split <;> (push_cast; omega)
theorem rd_mem (l : List Int) (i : Nat) (h : i < l.length) : rd l (i : Int) ∈ l := by
  rw [rd_get l i h]
  exact List.getElem_mem h
theorem progSw_loop (l : List Int) (hv : validL l = true) : ∀ d k (i : Nat) (acc : Int), l.length - 1 - i = d → i + 1 ≤ l.length → d < k → 0 ≤ acc → acc + d ≤ 1000 → sched_Switches.l0 k l acc ((l.length - 1 : Nat) : Int) i = some (acc + cnt l d i, 0) := by
  obtain ⟨h6, ht⟩ := valid_all l hv
  intro d
  induction d with
  | zero =>
    intro k i acc hd hi hk h0 h1
    obtain ⟨k, rfl⟩ : ∃ m, k = m + 1 := ⟨k - 1, by omega⟩
    rw [sched_Switches.l0, if_neg (by omega)]
    simp [cnt]
  | succ d ih =>
    intro k i acc hd hi hk h0 h1
    obtain ⟨k, rfl⟩ : ∃ m, k = m + 1 := ⟨k - 1, by omega⟩
    rw [sched_Switches.l0, if_pos (by omega), if_pos (by omega), if_pos (by omega), wrap_succ i (by omega), sched_who.f]
    simp only [Option.bind_some]
    rw [if_pos (by omega), if_pos (by omega), sched_who.f]
    simp only [Option.bind_some]
    rw [who_thr _ (ht _ (rd_mem l i (by omega))), who_thr _ (ht _ (rd_mem l (i + 1) (by omega))), wrap_id (acc + 1) (by omega) (by omega)]
    unfold cnt sw
    by_cases h : thr (rd l (i : Int)) = thr (rd l ((i + 1 : Nat) : Int))
    · rw [if_pos h, ih k (i + 1) acc (by omega) (by omega) (by omega) h0 (by omega)]
      simp [h]
    · have e : (thr (rd l (i : Int)) != thr (rd l ((i + 1 : Nat) : Int))) = true := bne_iff_ne.mpr h
      rw [if_neg h, ih k (i + 1) (acc + 1) (by omega) (by omega) (by omega) (by omega) (by omega), if_pos e, Int.add_assoc]
theorem refSw_loop (l : List Int) (hv : validL l = true) : ∀ d k (i : Nat) (acc : Int), l.length - 1 - i = d → i + 1 ≤ l.length → d + 1 < k → 0 ≤ acc → acc + d ≤ 1000 → locklessref23_Switches.l0 k l acc ((i + 1 : Nat) : Int) = some (acc + cnt l d i, 0) := by
  obtain ⟨h6, ht⟩ := valid_all l hv
  intro d
  induction d with
  | zero =>
    intro k i acc hd hi hk h0 h1
    obtain ⟨k, rfl⟩ : ∃ m, k = m + 1 := ⟨k - 1, by omega⟩
    rw [locklessref23_Switches.l0, if_neg (by omega)]
    simp [cnt]
  | succ d ih =>
    intro k i acc hd hi hk h0 h1
    obtain ⟨k, rfl⟩ : ∃ m, k = m + 2 := ⟨k - 2, by omega⟩
    have hw : wrap64 (((i + 1 : Nat) : Int) - 1) = (i : Int) := by rw [wrap_id _ (by omega) (by omega)]; omega
    rw [locklessref23_Switches.l0, if_pos (by omega), if_pos (by omega), thread_some]
    simp only [Option.bind_some]
    rw [hw, if_pos (by omega), if_pos (by omega), thread_some]
    simp only [Option.bind_some]
    rw [wrap_succ (i + 1) (by omega), wrap_id (acc + 1) (by omega) (by omega)]
    unfold cnt sw
    by_cases h : thr (rd l (i : Int)) = thr (rd l ((i + 1 : Nat) : Int))
    · rw [if_pos h.symm, ih (k + 1) (i + 1) acc (by omega) (by omega) (by omega) h0 (by omega)]
      simp [h]
    · have e : (thr (rd l (i : Int)) != thr (rd l ((i + 1 : Nat) : Int))) = true := bne_iff_ne.mpr h
      rw [if_neg (fun g => h g.symm), ih (k + 1) (i + 1) (acc + 1) (by omega) (by omega) (by omega) (by omega) (by omega), if_pos e, Int.add_assoc]
theorem progSw (l : List Int) (k : Nat) (hl : l.length < 100000) (hk : l.length + 2 < k) : sched_Switches.f k l = some (if validL l then (cnt l (l.length - 1) 0, 0) else (0, 1)) := by
  unfold sched_Switches.f sched_Valid.f
  simp only [Option.bind_some]
  cases hv : validL l
  · simp
  · obtain ⟨h6, ht⟩ := valid_all l hv
    simp only [if_true]
    by_cases h0 : l.length = 0
    · obtain ⟨k, rfl⟩ : ∃ m, k = m + 1 := ⟨k - 1, by omega⟩
      have hm : mx 0 (wrap64 ((l.length : Int) - 1)) = 0 := by rw [h0, wrap_id _ (by omega) (by omega)]; unfold mx; decide
      rw [hm, sched_Switches.l0, if_neg (by decide), h0]
      rfl
    · have hm : mx 0 (wrap64 ((l.length : Int) - 1)) = ((l.length - 1 : Nat) : Int) := by rw [wrap_id _ (by omega) (by omega)]; unfold mx; split <;> omega
      rw [hm]
      have := progSw_loop l hv (l.length - 1) k 0 0 (by omega) (by omega) (by omega) (by omega) (by omega)
      rw [Int.zero_add] at this
      exact this
theorem refSw (l : List Int) (k : Nat) (hl : l.length < 100000) (hk : l.length + 2 < k) : locklessref23_Switches.f k l = some (if validL l then (cnt l (l.length - 1) 0, 0) else (0, 1)) := by
  unfold locklessref23_Switches.f
  rw [refValid l k hl (by omega)]
  simp only [Option.bind_some]
  cases hv : validL l
  · simp
  · obtain ⟨h6, ht⟩ := valid_all l hv
    simp only [if_true]
    by_cases h0 : l.length = 0
    · obtain ⟨k, rfl⟩ : ∃ m, k = m + 1 := ⟨k - 1, by omega⟩
      rw [locklessref23_Switches.l0, if_neg (by omega), h0]
      rfl
    · have := refSw_loop l hv (l.length - 1) k 0 0 (by omega) (by omega) (by omega) (by omega) (by omega)
      rw [Int.zero_add] at this
      exact this
theorem foldl_map (f : Int → Int) : ∀ (l acc : List Int), l.foldl (fun acc x => acc ++ [f x]) acc = acc ++ l.map f := by
  intro l
  induction l with
  | nil => intro acc; simp
  | cons x r ih => intro acc; rw [List.foldl_cons, ih]; simp
theorem progPlain (l : List Int) (k : Nat) (hl : l.length < 100000) (hk : l.length + 2 < k) : sched_Plain.f k l = some (if validL l then (l.map thr, 0) else ([], 1)) := by
  unfold sched_Plain.f sched_Valid.f
  simp only [Option.bind_some]
  cases hv : validL l
  · simp
  · obtain ⟨h6, ht⟩ := valid_all l hv
    simp only [if_true]
    have := idx_loop0 (σ := List Int) l (fun k s i => sched_Plain.l0 k s l (l.length : Int) i) (fun acc x => acc ++ [thr x]) (fun s => some (s, 0)) 1 (fun s i => s.length ≤ i)
      (fun k s i hk hi hI => by
        show sched_Plain.l0 (k + 1) s l (l.length : Int) i = _
        rw [sched_Plain.l0, if_pos (by omega), if_pos (by omega), if_pos (by omega), sched_who.f]
        simp only [Option.bind_some]
        rw [who_thr _ (ht _ (rd_mem l i hi)), if_pos (by omega), wrap_succ i (by omega)])
      (fun s i hi hI => by rw [List.length_append, List.length_singleton]; omega)
      (fun k s _ _ => by show sched_Plain.l0 (k + 1) s l (l.length : Int) _ = _; rw [sched_Plain.l0, if_neg (by omega)]) k [] (by omega) (by simp)
    rw [foldl_map, List.nil_append] at this
    exact this
theorem refPlain (l : List Int) (k : Nat) (hl : l.length < 100000) (hk : l.length + 2 < k) : locklessref23_Plain.f k l = some (if validL l then (l.map thr, 0) else ([], 1)) := by
  unfold locklessref23_Plain.f
  rw [refValid l k hl (by omega)]
  simp only [Option.bind_some]
  cases hv : validL l
  · simp
  · simp only [if_true]
    have := idx_loop0 (σ := List Int) l (fun k s i => locklessref23_Plain.l0 k l s i) (fun acc x => acc ++ [thr x]) (fun s => some (s, 0)) 1 (fun s i => s.length ≤ i)
      (fun k s i hk hi hI => by
        obtain ⟨k, rfl⟩ : ∃ m, k = m + 1 := ⟨k - 1, by omega⟩
        show locklessref23_Plain.l0 (k + 1 + 1) l s i = _
        rw [locklessref23_Plain.l0, if_pos (by omega), if_pos (by omega), thread_some]
        simp only [Option.bind_some]
        rw [if_pos (by omega), wrap_succ i (by omega)])
      (fun s i hi hI => by rw [List.length_append, List.length_singleton]; omega)
      (fun k s _ _ => by show locklessref23_Plain.l0 (k + 1) l s _ = _; rw [locklessref23_Plain.l0, if_neg (by omega)]) k [] (by omega) (by simp)
    rw [foldl_map, List.nil_append] at this
    exact this
theorem own_cons (t x : Int) (r : List Int) : ((x :: r).filter (own t)).length = (if thr x = t then 1 else 0) + (r.filter (own t)).length := by
  by_cases h : thr x = t
  · have e : own t x = true := by simp [own, h]
    rw [List.filter_cons_of_pos e, List.length_cons, if_pos h]; omega
  · have e : ¬ (own t x = true) := by simp [own, h]
    rw [List.filter_cons_of_neg e, if_neg h]; omega
theorem all_own (l : List Int) (h : ∀ x ∈ l, 0 ≤ thr x) : (l.filter (own 0)).length + (l.filter (own 1)).length + (l.filter (own 2)).length + (l.filter (own 3)).length = l.length := by
  induction l with
  | nil => rfl
  | cons x r ih =>
    have hx := h x List.mem_cons_self
    have hx4 := thr_lt x
    have ih := ih (fun y hy => h y (List.mem_cons_of_mem _ hy))
    rw [own_cons, own_cons, own_cons, own_cons, List.length_cons]
    obtain h0 | h0 | h0 | h0 : thr x = 0 ∨ thr x = 1 ∨ thr x = 2 ∨ thr x = 3 := by omega
    all_goals (rw [h0]; simp; omega)
theorem turns_sum (l : List Int) (k : Nat) (hv : validL l = true) (hk : 30 ≤ k) : locklesslaw23_SchedTells.l0 k l 0 0 = some true := by
  obtain ⟨h6, ht⟩ := valid_all l hv
  have hs := all_own l ht
  obtain ⟨k, rfl⟩ : ∃ m, k = m + 5 := ⟨k - 5, by omega⟩
  have hT : ∀ t : Int, 0 ≤ t → t < 4 → sched_Turns.f l t = some (((l.filter (own t)).length : Int), 0) := fun t h1 h2 => by
    rw [progTurns l t (by omega)]
    simp [turnsOk, hv, thOk, h1, h2]
  have step : ∀ (k : Nat) (a t : Int), 0 ≤ t → t < 4 → 0 ≤ a → a ≤ 10000 → locklesslaw23_SchedTells.l0 (k + 1) l a t = locklesslaw23_SchedTells.l0 k l (a + ((l.filter (own t)).length : Int)) (t + 1) := fun k a t h1 h2 h3 h4 => by
    have hle := List.length_filter_le (own t) l
    rw [locklesslaw23_SchedTells.l0, if_pos h2, hT t h1 h2]
    simp only [Option.bind_some]
    rw [wrap_id _ (by omega) (by omega), wrap_id _ (by omega) (by omega)]
  have g0 := List.length_filter_le (own 0) l
  have g1 := List.length_filter_le (own 1) l
  have g2 := List.length_filter_le (own 2) l
  rw [step _ 0 0 (by decide) (by decide) (by decide) (by decide), Int.zero_add, Int.zero_add, step _ _ 1 (by decide) (by decide) (by omega) (by omega), show (1 : Int) + 1 = 2 from rfl, step _ _ 2 (by decide) (by decide) (by omega) (by omega), show (2 : Int) + 1 = 3 from rfl, step _ _ 3 (by decide) (by decide) (by omega) (by omega), show (3 : Int) + 1 = 4 from rfl]
  rw [locklesslaw23_SchedTells.l0, if_neg (by decide), if_pos (by omega), sane_some _ (by omega)]
  simp only [Option.bind_some]
theorem tells (l : List Int) (t : Int) : ∃ k, locklesslaw23_SchedTells.f k l t = some true := by
  refine ⟨5001, ?_⟩
  unfold locklesslaw23_SchedTells.f
  by_cases hl : (l.length : Int) > 1500
  · rw [if_pos hl, sane_some _ (by omega)]; rfl
  · rw [if_neg hl, progTurns l t (by omega), refTurns l t _ (by omega) (by omega), progSw l _ (by omega) (by omega), refSw l _ (by omega) (by omega), progPlain l _ (by omega) (by omega), refPlain l _ (by omega) (by omega), refValid l _ (by omega) (by omega), sched_Valid.f]
    simp only [Option.bind_some, bne_self_eq_false, Bool.false_eq_true, if_false, if_true]
    cases hv : validL l
    · simp only [Bool.false_eq_true, if_false]
      rw [ints_self _ _ (by simp) (by simp)]
      simp only [Option.bind_some]
      rw [locklesslaw23_SchedTells.j0, if_neg (by decide), if_neg (by decide), sane_some _ (by omega)]
      rfl
    · simp only [if_true]
      rw [ints_self _ _ (by simp; omega) (by simp; omega)]
      simp only [Option.bind_some]
      rw [locklesslaw23_SchedTells.j0, if_neg (by decide), if_pos rfl]
      exact turns_sum l _ hv (by omega)
end Go.Proofs.Ytefhhaccoeljmaa.XS
namespace Go.Proofs.Ytefhhaccoeljmaa.Pure
theorem SchedTells : XS.locklesslaw23_SchedTells.Pure := fun l t _ _ _ _ => XS.tells l t
end Go.Proofs.Ytefhhaccoeljmaa.Pure
