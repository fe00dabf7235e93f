/- Stop is the reference's, of every list, thread and number, and leaves the other threads' steps alone: what the printed law computes; no condition. -/
import Derived.Test.YtefhhaccoeljmaaSpB
import Derived.Test.YtefhhaccoeljmaaXS4
namespace Go.Proofs.Ytefhhaccoeljmaa.XS
open Go.RowKit Go.Proofs.YtefhhaccoeljmaaW.PrintWords Go.Proofs.YtefhhaccoeljmaaW.PrintLast

theorem copy_some (l : List Int) (hl : l.length < 100000) : locklessref01_Copy.f l = some l := by
  unfold locklessref01_Copy.f
  simp only [Option.bind_some, List.length_nil, List.nil_append]
  rw [if_pos (by omega)]
theorem rstop_facts (l : List Int) (t by_ : Int) (hb : 0 ≤ by_) : (∀ x ∈ (l.foldl (rstep t by_) ([], 0)).1, x ∈ l) ∧ (l.foldl (rstep t by_) ([], 0)).1.length ≤ l.length ∧
    ((l.foldl (rstep t by_) ([], 0)).1.filter (fun x => !own t x)) = l.filter (fun x => !own t x) ∧ (((l.foldl (rstep t by_) ([], 0)).1.filter (own t)).length : Int) ≤ by_ := by
  have := foldl_rel (rstep t by_) (fun (r : List Int) x => r ++ [x]) (fun s r i => (∀ x ∈ s.1, x ∈ r) ∧ s.1.length ≤ r.length ∧ s.1.filter (fun x => !own t x) = r.filter (fun x => !own t x) ∧ ((s.1.filter (own t)).length : Int) ≤ by_ ∧ ((s.1.filter (own t)).length : Int) ≤ s.2) l ([], 0) [] 0
    (fun s r i x hx _ _ hR => by
      obtain ⟨h1, h2, h3, h4, h5⟩ := hR
      unfold rstep
      by_cases h : thr x = t
      · have ho : own t x = true := by simp [own, h]
        have e1 : ([x].filter fun x => !own t x) = [] := by simp [ho]
        have e2 : ([x].filter (own t)) = [x] := by simp [ho]
        rw [if_pos h]
        by_cases hb : s.2 + 1 > by_
        · rw [if_pos hb]
          refine ⟨fun y hy => List.mem_append_left _ (h1 y hy), by rw [List.length_append]; exact Nat.le_trans h2 (Nat.le_add_right _ _), by rw [List.filter_append, e1, List.append_nil]; exact h3, h4, Int.le_trans h5 (by show s.2 ≤ s.2 + 1; omega)⟩
        · rw [if_neg hb]
          refine ⟨fun y hy => ?_, by rw [List.length_append, List.length_append]; omega, by rw [List.filter_append, List.filter_append, e1, h3], ?_, ?_⟩
          · rcases List.mem_append.1 hy with hy | hy
            · exact List.mem_append_left _ (h1 y hy)
            · exact List.mem_append_right _ hy
          · rw [List.filter_append, e2, List.length_append, List.length_singleton]; push_cast; omega
          · rw [List.filter_append, e2, List.length_append, List.length_singleton]; push_cast; omega
      · have ho : own t x = false := by simp [own, h]
        have e1 : ([x].filter fun x => !own t x) = [x] := by simp [ho]
        have e2 : ([x].filter (own t)) = [] := by simp [ho]
        rw [if_neg h]
        refine ⟨fun y hy => ?_, by rw [List.length_append, List.length_append]; omega, by rw [List.filter_append, List.filter_append, e1, h3], by rw [List.filter_append, e2, List.append_nil]; exact h4, by rw [List.filter_append, e2, List.append_nil]; exact h5⟩
        rcases List.mem_append.1 hy with hy | hy
        · exact List.mem_append_left _ (h1 y hy)
        · exact List.mem_append_right _ hy) (by simp [hb])
  have e : ∀ (l acc : List Int), l.foldl (fun r x => r ++ [x]) acc = acc ++ l := by
    intro l
    induction l with
    | nil => intro acc; simp
    | cons x r ih => intro acc; rw [List.foldl_cons, ih]; simp
  rw [e, List.nil_append] at this
  exact ⟨this.1, this.2.1, this.2.2.1, this.2.2.2.1⟩
theorem SchedStops (l : List Int) (t fr by_ : Int) : ∃ k, locklesslaw23_SchedStops.f k l t fr by_ = some true := by
  refine ⟨5001, ?_⟩
  unfold locklesslaw23_SchedStops.f
  by_cases hl : (l.length : Int) > 1500
  · rw [if_pos hl, sane_some _ (by omega)]; rfl
  · rw [if_neg hl, progStop l t by_ (by omega), copy_some l (by omega)]
    simp only [Option.bind_some]
    rw [refStop l t by_ _ (by omega) (by omega)]
    simp only [Option.bind_some]
    simp only [if_true]
    by_cases hok : stopOk l t by_ = true
    · rw [if_pos hok]
      have hv := hok
      simp only [stopOk, Bool.and_eq_true, decide_eq_true_eq] at hv
      obtain ⟨⟨hv, ht⟩, h0, h6⟩ := hv
      obtain ⟨f1, f2, f3, f4⟩ := rstop_facts l t by_ h0
      obtain ⟨v1, v2⟩ := valid_all l hv
      generalize (l.foldl (rstep t by_) ([], 0)).1 = a at f1 f2 f3 f4 ⊢
      have hva : validL a = true := valid_of a (by omega) (fun x hx => v2 x (f1 x hx))
      rw [ints_self a _ (by omega) (by omega)]
      simp only [Option.bind_some]
      rw [locklesslaw23_SchedStops.j0, if_neg (by decide), if_pos rfl, progTurns a t (by omega)]
      simp only [Option.bind_some, turnsOk, hva, ht, Bool.and_self, if_true]
      rw [if_neg (by omega), sched_Valid.f, hva]
      simp only [Option.bind_some, if_true]
      rw [others_some a t _ (by omega) (by omega), others_some l t _ (by omega) (by omega)]
      simp only [Option.bind_some]
      rw [f3, ints_self _ _ (Nat.lt_of_le_of_lt (List.length_filter_le _ _) (by omega)) (Nat.lt_of_le_of_lt (List.length_filter_le _ _) (by omega))]
      simp only [Option.bind_some, if_true]
      rw [sane_some _ (by omega)]
      rfl
    · rw [if_neg hok, ints_self _ _ (by simp) (by simp)]
      simp only [Option.bind_some]
      rw [locklesslaw23_SchedStops.j0, if_neg (by decide), if_neg (by decide), sane_some _ (by omega)]
      rfl
end Go.Proofs.Ytefhhaccoeljmaa.XS
