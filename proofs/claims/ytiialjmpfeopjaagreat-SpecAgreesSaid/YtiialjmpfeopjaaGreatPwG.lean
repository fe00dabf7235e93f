/- Tickets go: what next tells, and what is behind it, by the rules' deeds alone: plain lemmas; no condition. -/
import Derived.Test.YtiialjmpfeopjaaGreatPwD
import Derived.Test.YtiialjmpfeopjaaGreatSm6
namespace Go.Proofs.YtiialjmpfeopjaaGreat.Sp
open Go.RowKit Go.Sort Go.Proofs.YtiialjmpfeopjaaGreatW.PrintWords Go.Proofs.YtiialjmpfeopjaaGreatW.PrintLast Go.Proofs.YtiialjmpfeopjaaGreatW.PrintMore
set_option linter.unusedVariables false
set_option linter.unusedSimpArgs false
set_option maxRecDepth 100000
theorem i64_and3 (n : Int) : bits .and .i64 n 3 = n % 4 := i64_low n 2 (by decide)
abbrev SortedLt (s : List Int) : Prop := s.Pairwise (· < ·)
theorem insL_len (s : List Int) (x : Int) : (insL s x).length = s.length + 1 := by
  unfold insL
  have := @List.countP_le_length Int (· < x) s
  rw [List.length_append, List.length_take, List.length_cons, List.length_drop]; omega
theorem insL_mem {s : List Int} {x y : Int} : y ∈ insL s x ↔ y = x ∨ y ∈ s := by
  unfold insL
  rw [List.mem_append, List.mem_cons]
  constructor
  · rintro (h | h | h)
    · exact .inr (List.mem_of_mem_take h)
    · exact .inl h
    · exact .inr (List.mem_of_mem_drop h)
  · rintro (h | h)
    · exact .inr (.inl h)
    · rw [← List.take_append_drop (s.countP (· < x)) s] at h
      rcases List.mem_append.1 h with h | h
      · exact .inl h
      · exact .inr (.inr h)
theorem insL_lt {a x : Int} {s : List Int} (h : a < x) : insL (a :: s) x = a :: insL s x := by
  unfold insL
  rw [List.countP_cons_of_pos (by simpa using h)]
  rfl
theorem insL_ge {a x : Int} {s : List Int} (hs : (a :: s).Pairwise (· ≤ ·)) (h : x ≤ a) : insL (a :: s) x = x :: a :: s := by
  unfold insL
  have hc : (a :: s).countP (· < x) = 0 := by
    rw [List.countP_eq_zero]
    intro y hy
    rcases List.mem_cons.1 hy with e | hy
    · subst e; simp; omega
    · have := (List.pairwise_cons.1 hs).1 y hy
      simp; omega
  rw [hc]; rfl
theorem SortedLt.le {s : List Int} (h : SortedLt s) : s.Pairwise (· ≤ ·) := h.imp (fun h => Int.le_of_lt h)
theorem insL_sorted : ∀ {s : List Int} {x : Int}, SortedLt s → x ∉ s → SortedLt (insL s x)
  | [], x, _, _ => by show SortedLt [x]; simp [SortedLt]
  | a :: s, x, h, hx => by
    have h2 := List.pairwise_cons.1 h
    by_cases ha : a < x
    · rw [insL_lt ha]
      refine List.pairwise_cons.2 ⟨fun y hy => ?_, insL_sorted h2.2 (fun e => hx (List.mem_cons_of_mem _ e))⟩
      rcases insL_mem.1 hy with e | e
      · rw [e]; exact ha
      · exact h2.1 y e
    · rw [insL_ge h.le (by omega)]
      have hne : x ≠ a := fun e => hx (by rw [e]; exact List.mem_cons_self ..)
      refine List.pairwise_cons.2 ⟨fun y hy => ?_, h⟩
      rcases List.mem_cons.1 hy with e | e
      · omega
      · have := h2.1 y e; omega
theorem asc_of : ∀ {s : List Int}, SortedLt s → ascB s = true ∧ diffB s = true
  | [], _ => ⟨rfl, rfl⟩
  | [a], _ => ⟨rfl, rfl⟩
  | a :: b :: r, h => by
    have h2 := List.pairwise_cons.1 h
    have ih := asc_of h2.2
    have hab := h2.1 b (List.mem_cons_self ..)
    refine ⟨?_, ?_⟩
    · simp only [ascB, Bool.and_eq_true, decide_eq_true_eq]; exact ⟨by omega, ih.1⟩
    · simp only [diffB, Bool.and_eq_true]; exact ⟨by simp; omega, ih.2⟩
theorem at9 : ruleS 9 1 = some rule9 := by
  unfold ruleS
  rw [if_neg (by omega)]
  repeat' (first | rw [if_neg (by omega)] | rw [if_pos rfl])
/-- What the tickets given so far are. -/
def TkI (s : List Int) : Prop := SortedLt s ∧ ∀ x ∈ s, 0 ≤ x ∧ x < (s.length : Int) + 12
theorem good9 {s : List Int} (h : TkI s) (hl : s.length ≤ 24) : rule9.good s = true := by
  show ascendingB 1000000000000000 true s = true
  have h2 := asc_of h.1
  have h3 : wordsB 24 1000000000000000 s = true := words_iff.2 ⟨by omega, fun x hx => by have := h.2 x hx; omega⟩
  simp only [ascendingB, h2.1, h2.2, h3]
  rfl
theorem tk_ins {s : List Int} {x : Int} (h : TkI s) (hx : x ∉ s) (h0 : 0 ≤ x) (h1 : x < (s.length : Int) + 13) : TkI (insL s x) := by
  refine ⟨insL_sorted h.1 hx, fun y hy => ?_⟩
  rw [insL_len]
  rcases insL_mem.1 hy with e | e
  · rw [e]; push_cast; omega
  · have := h.2 y e; push_cast; omega
theorem cnt_eq : ∀ {s : List Int} (N : Int), SortedLt s → s.countP (· < N + 1) = s.countP (· < N) + if s.contains N = true then 1 else 0
  | [], N, _ => by simp
  | a :: s, N, h => by
    have h2 := List.pairwise_cons.1 h
    have ih := cnt_eq N h2.2
    rw [List.countP_cons, List.countP_cons, ih]
    by_cases e : a = N
    · subst e
      have hn : s.contains a = false := by
        cases hq : s.contains a with
        | false => rfl
        | true =>
          rw [List.contains_iff_mem] at hq
          have := h2.1 a hq
          omega
      rw [hn]
      simp
      omega
    · have hc : (a :: s).contains N = s.contains N := by
        rw [List.contains_cons]
        have : (N == a) = false := by simpa using fun h => e h.symm
        rw [this]; rfl
      rw [hc]
      by_cases hlt : a < N
      · have h3 : decide (a < N + 1) = true := decide_eq_true (by omega)
        rw [h3, decide_eq_true hlt]; omega
      · have h3 : decide (a < N + 1) = false := decide_eq_false (by omega)
        rw [h3, decide_eq_false hlt]; omega
theorem free_len {s : List Int} (h : SortedLt s) (h0 : ∀ x ∈ s, 0 ≤ x) : ∀ N : Nat, ((List.range N).filter fun (n : Nat) => !s.contains (n : Int)).length + s.countP (· < (N : Int)) = N
  | 0 => by
    have : s.countP (· < ((0 : Nat) : Int)) = 0 := by
      rw [List.countP_eq_zero]
      intro y hy
      have := h0 y hy
      simp; omega
    rw [this]; rfl
  | N + 1 => by
    have ih := free_len h h0 N
    have hc := cnt_eq (N : Int) h
    rw [List.range_succ, List.filter_append, List.length_append]
    have e : ((N + 1 : Nat) : Int) = (N : Int) + 1 := by push_cast; rfl
    rw [e, hc]
    cases hq : s.contains (N : Int) with
    | true =>
      have f : (List.filter (fun (n : Nat) => !s.contains (n : Int)) [N]).length = 0 := by simp [List.filter_cons, hq, -List.contains_eq_mem]
      rw [f, if_pos rfl]; omega
    | false =>
      have f : (List.filter (fun (n : Nat) => !s.contains (n : Int)) [N]).length = 1 := by simp [List.filter_cons, hq, -List.contains_eq_mem]
      rw [f, if_neg (by decide)]; omega
theorem ticket_len {s : List Int} (h : TkI s) : (ticketL s (s.length + 13)).length = 13 := by
  unfold ticketL
  rw [List.length_map]
  have h1 := free_len h.1 (fun x hx => (h.2 x hx).1) (s.length + 13)
  have h2 : s.countP (· < ((s.length + 13 : Nat) : Int)) = s.length := by
    rw [List.countP_eq_length]
    intro y hy
    have := h.2 y hy
    simp; omega
  omega
theorem ticket_mem {s : List Int} {N : Nat} {e : Eff} (h : e ∈ ticketL s N) : 0 ≤ e.1 ∧ e.1 < N ∧ e.1 ∉ s ∧ e.2 = insL s e.1 := by
  unfold ticketL at h
  obtain ⟨n, hn, rfl⟩ := List.mem_map.1 h
  rw [List.mem_filter] at hn
  have := List.mem_range.1 hn.1
  refine ⟨Int.natCast_nonneg n, by show (n : Int) < N; omega, fun hm => ?_, rfl⟩
  have h2 := List.contains_iff_mem.2 hm
  have h3 := hn.2
  rw [h2] at h3
  exact absurd h3 (by decide)
theorem next_act (x t : Int) (hx : 0 ≤ x ∧ x ≤ 900) (ht : 0 ≤ t ∧ t < 4) : actS rule9.acts ⟨#[110, 101, 120, 116]⟩ x 0 t = some ticketA :=
  act_first (does_true (by simp [ticketA]) (takes_one hx.1 hx.2) ht.1 ht.2)
theorem eff9 {s : List Int} (h : TkI s) (hl : s.length ≤ 24) (x t : Int) (hx : 0 ≤ x ∧ x ≤ 900) (ht : 0 ≤ t ∧ t < 4) : effS 9 1 s ⟨#[110, 101, 120, 116]⟩ x 0 t = some (ticketL s (s.length + 13)) :=
  eff_step at9 (good9 h hl) (next_act x t hx ht)
theorem results9 {s : List Int} (h : TkI s) (hl : s.length ≤ 24) (x t : Int) (hx : 0 ≤ x ∧ x ≤ 900) (ht : 0 ≤ t ∧ t < 4) : resultsS 9 1 s ⟨#[110, 101, 120, 116]⟩ x 0 t = some ((ticketL s (s.length + 13)).map (·.1), 0) := by
  unfold resultsS
  rw [eff9 h hl x t hx ht]
  simp only
  rw [if_pos (by rw [ticket_len h]; decide)]
theorem next9 {s : List Int} (h : TkI s) (hl : s.length + 1 ≤ 24) (x t res : Int) (hx : 0 ≤ x ∧ x ≤ 900) (ht : 0 ≤ t ∧ t < 4) (hr : ∃ e ∈ ticketL s (s.length + 13), e.1 = res) : nextS 9 1 s ⟨#[110, 101, 120, 116]⟩ x 0 t res = some (insL s res, true, 0) := by
  obtain ⟨e0, he0, e1⟩ := hr
  unfold nextS
  rw [eff9 h (by omega) x t hx ht]
  simp only
  rw [if_pos (by rw [ticket_len h]; decide)]
  cases hi : idxE res (ticketL s (s.length + 13)) with
  | none =>
    unfold idxE at hi
    rw [List.findIdx?_eq_none_iff] at hi
    have := hi e0 he0
    rw [e1] at this
    simp at this
  | some k =>
    have hk := idxE_lt hi
    unfold idxE at hi
    rw [List.findIdx?_eq_some_iff_getElem] at hi
    obtain ⟨_, h2, _⟩ := hi
    have h3 := ticket_mem (List.getElem_mem hk)
    have h4 : ((ticketL s (s.length + 13))[k]).1 = res := by simpa using h2
    rw [h4] at h3
    have hd : (ticketL s (s.length + 13)).getD k (0, []) = (ticketL s (s.length + 13))[k] := by rw [List.getD_eq_getElem?_getD, List.getElem?_eq_getElem hk]; rfl
    simp only
    rw [hd, h3.2.2.2]
    have hI := tk_ins h h3.2.2.1 h3.1 (by have := h3.2.1; push_cast at this; omega)
    have hv : validS 9 1 (insL s res) = true := by unfold validS; rw [at9]; exact good9 hI (by rw [insL_len]; omega)
    rw [if_pos (by rw [insL_len]; omega), if_pos hv]
theorem again9 {s : List Int} (h : TkI s) (hl : s.length ≤ 24) (x res : Int) (hx : 0 ≤ x ∧ x ≤ 900) (hr : res ∈ s) : nextS 9 1 s ⟨#[110, 101, 120, 116]⟩ x 0 0 res = some ([], false, 0) := by
  unfold nextS
  rw [eff9 h hl x 0 hx (by omega)]
  simp only
  rw [if_pos (by rw [ticket_len h]; decide)]
  have hi : idxE res (ticketL s (s.length + 13)) = none := by
    unfold idxE
    rw [List.findIdx?_eq_none_iff]
    intro e he
    have := ticket_mem he
    cases hq : (e.1 == res) with
    | false => rfl
    | true =>
      have : e.1 = res := by simpa using hq
      exact absurd hr (this ▸ (ticket_mem he).2.2.1)
  rw [hi]
theorem start9 : startS 9 1 = ([], 0) := by unfold startS; rw [at9]; rfl
end Go.Proofs.YtiialjmpfeopjaaGreat.Sp
