/- Which lists are states of a rule: the program's test is the document's: plain lemmas; no condition. -/
import Derived.Test.YtiialjmpfeopjaaGreatPwH
namespace Go.Proofs.YtiialjmpfeopjaaGreat.Sp
open Go.RowKit Go.Sort Go.Proofs.YtiialjmpfeopjaaGreatW.PrintWords Go.Proofs.YtiialjmpfeopjaaGreatW.PrintLast Go.Proofs.YtiialjmpfeopjaaGreatW.PrintMore
set_option linter.unusedVariables false
set_option linter.unusedSimpArgs false
set_option maxRecDepth 100000
theorem inB_at_iff {lo hi : Int} {s : List Int} : inB lo hi s = true ↔ ∀ i, i < s.length → lo ≤ s.getD i 0 ∧ s.getD i 0 ≤ hi := by
  unfold inB
  rw [List.all_eq_true]
  constructor
  · intro h i hi
    have := h _ (List.getElem_mem hi)
    rw [List.getD_eq_getElem?_getD, List.getElem?_eq_getElem hi]
    have := Bool.and_eq_true_iff.1 this
    exact ⟨of_decide_eq_true this.1, of_decide_eq_true this.2⟩
  · intro h x hx
    obtain ⟨j, hj, rfl⟩ := List.getElem_of_mem hx
    have := h j hj
    rw [List.getD_eq_getElem?_getD, List.getElem?_eq_getElem hj] at this
    exact Bool.and_eq_true_iff.2 ⟨decide_eq_true this.1, decide_eq_true this.2⟩
theorem ascB_at_iff : ∀ {s : List Int}, ascB s = true ↔ ∀ i, i + 1 < s.length → s.getD i 0 ≤ s.getD (i + 1) 0
  | [] => by simp [ascB]
  | [a] => by simp [ascB]
  | a :: b :: r => by
    unfold ascB
    rw [Bool.and_eq_true, decide_eq_true_eq, ascB_at_iff (s := b :: r)]
    constructor
    · rintro ⟨h1, h2⟩ i hi
      cases i with
      | zero => exact h1
      | succ i => exact h2 i (by simpa using hi)
    · intro h
      exact ⟨h 0 (by simp), fun i hi => h (i + 1) (by simpa using hi)⟩
theorem diffB_at_iff : ∀ {s : List Int}, diffB s = true ↔ ∀ i, i + 1 < s.length → s.getD i 0 ≠ s.getD (i + 1) 0
  | [] => by simp [diffB]
  | [a] => by simp [diffB]
  | a :: b :: r => by
    unfold diffB
    rw [Bool.and_eq_true, bne_iff_ne, diffB_at_iff (s := b :: r)]
    constructor
    · rintro ⟨h1, h2⟩ i hi
      cases i with
      | zero => exact h1
      | succ i => exact h2 i (by simpa using hi)
    · intro h
      exact ⟨h 0 (by simp), fun i hi => h (i + 1) (by simpa using hi)⟩
theorem words_at_iff {lo hi o : Int} {s : List Int} : wordsR lo hi o s = true ↔ (∀ i, i < s.length → lo ≤ s.getD i 0 ∧ s.getD i 0 ≤ hi) ∧ (0 < o → ∀ i, i + 1 < s.length → s.getD i 0 ≤ s.getD (i + 1) 0) ∧ (1 < o → ∀ i, i + 1 < s.length → s.getD i 0 ≠ s.getD (i + 1) 0) := by
  unfold wordsR
  rw [List.all_eq_true]
  have key : ∀ i, okR lo hi o s i = true ↔ (lo ≤ s.getD i 0 ∧ s.getD i 0 ≤ hi) ∧ (0 < i → 0 < o → s.getD (i - 1) 0 ≤ s.getD i 0) ∧ (0 < i → 1 < o → s.getD (i - 1) 0 ≠ s.getD i 0) := by
    intro i
    unfold okR inR
    by_cases h1 : 0 < i <;> by_cases h2 : 0 < o <;> by_cases h3 : 1 < o <;> simp [h1, h2, h3]
  constructor
  · intro h
    have h' := fun i (hi : i < s.length) => (key i).1 (h i (List.mem_range.2 hi))
    exact ⟨fun i hi => (h' i hi).1, fun ho i hi => (h' (i + 1) hi).2.1 (by omega) ho, fun ho i hi => (h' (i + 1) hi).2.2 (by omega) ho⟩
  · rintro ⟨h1, h2, h3⟩ i hi
    have hi := List.mem_range.1 hi
    refine (key i).2 ⟨h1 i hi, fun h0 ho => ?_, fun h0 ho => ?_⟩
    · have := h2 ho (i - 1) (by omega)
      rwa [show i - 1 + 1 = i by omega] at this
    · have := h3 ho (i - 1) (by omega)
      rwa [show i - 1 + 1 = i by omega] at this
theorem words1 (lo hi : Int) (s : List Int) : wordsR lo hi 1 s = (inB lo hi s && ascB s) := by
  rw [Bool.eq_iff_iff, Bool.and_eq_true, words_at_iff, inB_at_iff, ascB_at_iff]
  exact ⟨fun h => ⟨h.1, h.2.1 (by decide)⟩, fun h => ⟨h.1, fun _ => h.2, fun h0 => absurd h0 (by decide)⟩⟩
theorem words2 (lo hi : Int) (s : List Int) : wordsR lo hi 2 s = (diffB s && (inB lo hi s && ascB s)) := by
  rw [Bool.eq_iff_iff, Bool.and_eq_true, Bool.and_eq_true, words_at_iff, inB_at_iff, ascB_at_iff, diffB_at_iff]
  exact ⟨fun h => ⟨h.2.2 (by decide), h.1, h.2.1 (by decide)⟩, fun h => ⟨h.2.1, fun _ => h.2.2, fun _ => h.1⟩⟩
theorem size_ne {r : Int} {s : List Int} (h : r ≠ 15) : sizeR r s = decide (s.length ≤ 24) := by
  unfold sizeR
  rw [decide_eq_false h, Bool.false_or, Bool.eq_iff_iff, Bool.and_eq_true]
  simp only [decide_eq_true_eq]
  omega
theorem rule_in {r n : Int} (h1 : 1 ≤ r) (h2 : r ≤ 16) (h3 : 1 ≤ n) (h4 : n ≤ 8) : ruleR r n = true := by
  unfold ruleR inR
  simp [h1, h2, h3, h4]
theorem valid_of {r n : Int} {R : RuleS} {s : List Int} (h : ruleS r n = some R) (hb : R.good s = (sizeR r s && bodyR r n s)) (hr : ruleR r n = true) : validS r n s = validR r n s := by
  unfold validS validR
  rw [h, hr, Bool.true_and]
  exact hb
theorem one_in (lo hi : Int) (s : List Int) : exactlyB 1 lo hi s = (decide (s.length = 1) && inR (s.getD 0 0) lo hi) := by
  unfold exactlyB
  match s with
  | [] => rfl
  | [x] => simp [inB, inR]
  | a :: b :: r => simp; omega
theorem exact_words (k : Nat) (lo hi : Int) (s : List Int) : exactlyB k lo hi s = (decide (s.length = k) && wordsR lo hi 0 s) := by
  unfold exactlyB
  rw [words0]
  congr 1
  rw [Bool.eq_iff_iff]
  simp only [decide_eq_true_eq]
  omega
theorem bt (a b : Bool) (h : b = true → a = true) : (a && b) = b := by cases a <;> cases b <;> simp_all
theorem valid_eq (r n : Int) (s : List Int) : validS r n s = validR r n s := by
  by_cases hn : n < 1 ∨ 8 < n
  · have h : ruleS r n = none := by unfold ruleS; rw [if_pos hn]
    have hr : ruleR r n = false := by unfold ruleR inR; rcases hn with h | h <;> simp <;> omega
    unfold validS validR
    rw [h, hr]; rfl
  by_cases h16 : r < 1 ∨ 16 < r
  · have h : ruleS r n = none := by
      unfold ruleS
      rw [if_neg hn, if_neg (by omega), if_neg (by omega), if_neg (by omega), if_neg (by omega), if_neg (by omega), if_neg (by omega), if_neg (by omega), if_neg (by omega), if_neg (by omega), if_neg (by omega), if_neg (by omega), if_neg (by omega), if_neg (by omega), if_neg (by omega), if_neg (by omega), if_neg (by omega)]
    have hr : ruleR r n = false := by unfold ruleR inR; rcases h16 with h | h <;> simp <;> omega
    unfold validS validR
    rw [h, hr]; rfl
  have hc : r = 1 ∨ r = 2 ∨ r = 3 ∨ r = 4 ∨ r = 5 ∨ r = 6 ∨ r = 7 ∨ r = 8 ∨ r = 9 ∨ r = 10 ∨ r = 11 ∨ r = 12 ∨ r = 13 ∨ r = 14 ∨ r = 15 ∨ r = 16 := by omega
  have hR := rule_in (r := r) (n := n) (by omega) (by omega) (by omega) (by omega)
  have w24 : ∀ hi : Int, wordsB 24 hi s = (decide (s.length ≤ 24) && inB 0 hi s) := fun hi => by
    unfold wordsB; congr 1; rw [Bool.eq_iff_iff]; simp only [decide_eq_true_eq]; omega
  rcases hc with rfl | rfl | rfl | rfl | rfl | rfl | rfl | rfl | rfl | rfl | rfl | rfl | rfl | rfl | rfl | rfl
  · refine valid_of (R := rule1) (by unfold ruleS; rw [if_neg hn]; rfl) ?_ hR
    rw [size_ne (by decide), show bodyR 1 n s = wordsR 0 900 0 s from rfl, words0]; exact w24 900
  · refine valid_of (R := rule2) (by unfold ruleS; rw [if_neg hn]; rfl) ?_ hR
    rw [size_ne (by decide), show bodyR 2 n s = wordsR 0 900 0 s from rfl, words0]; exact w24 900
  · refine valid_of (R := rule3 n) (by unfold ruleS; rw [if_neg hn]; rfl) ?_ hR
    rw [size_ne (by decide), show bodyR 3 n s = (decide ((s.length : Int) ≤ n) && wordsR 0 900 0 s) from rfl, words0]
    show wordsB n 900 s = _
    unfold wordsB
    cases inB 0 900 s
    · simp
    · rw [Bool.and_true, bt (decide (s.length ≤ 24)) _ (fun h => by have := of_decide_eq_true h; exact decide_eq_true (by omega))]
  · refine valid_of (R := rule4) (by unfold ruleS; rw [if_neg hn]; rfl) ?_ hR
    rw [size_ne (by decide), show bodyR 4 n s = wordsR 0 900 0 s from rfl, words0]; exact w24 900
  · refine valid_of (R := rule5) (by unfold ruleS; rw [if_neg hn]; rfl) ?_ hR
    rw [size_ne (by decide), show bodyR 5 n s = wordsR 0 900 1 s from rfl, words1]
    show ((!false || diffB s) && (wordsB 24 900 s && ascB s)) = _
    rw [w24]; simp [Bool.and_assoc]
  · refine valid_of (R := rule6) (by unfold ruleS; rw [if_neg hn]; rfl) ?_ hR
    rw [size_ne (by decide), show bodyR 6 n s = wordsR 0 900 1 s from rfl, words1]
    show ((!false || diffB s) && (wordsB 24 900 s && ascB s)) = _
    rw [w24]; simp [Bool.and_assoc]
  · refine valid_of (R := rule7) (by unfold ruleS; rw [if_neg hn]; rfl) ?_ hR
    rw [size_ne (by decide), show bodyR 7 n s = wordsR 0 900 2 s from rfl, words2]
    show ((!true || diffB s) && (wordsB 24 900 s && ascB s)) = _
    rw [w24]; cases decide (s.length ≤ 24) <;> cases diffB s <;> simp
  · refine valid_of (R := rule8) (by unfold ruleS; rw [if_neg hn]; rfl) ?_ hR
    rw [size_ne (by decide), show bodyR 8 n s = wordsR 0 15 2 s from rfl, words2]
    show ((!true || diffB s) && (wordsB 24 15 s && ascB s)) = _
    rw [w24]; cases decide (s.length ≤ 24) <;> cases diffB s <;> simp
  · refine valid_of (R := rule9) (by unfold ruleS; rw [if_neg hn]; rfl) ?_ hR
    rw [size_ne (by decide), show bodyR 9 n s = wordsR 0 1000000000000000 2 s from rfl, words2]
    show ((!true || diffB s) && (wordsB 24 1000000000000000 s && ascB s)) = _
    rw [w24]; cases decide (s.length ≤ 24) <;> cases diffB s <;> simp
  · refine valid_of (R := rule10) (by unfold ruleS; rw [if_neg hn]; rfl) ?_ hR
    rw [size_ne (by decide), show bodyR 10 n s = (decide (s.length = 1) && wordsR 0 900 0 s) from rfl]
    show exactlyB (1 : Nat) 0 900 s = _
    rw [exact_words, bt (decide (s.length ≤ 24)) _ (fun h => by have := of_decide_eq_true (Bool.and_eq_true_iff.1 h).1; exact decide_eq_true (by omega))]
  · refine valid_of (R := rule11) (by unfold ruleS; rw [if_neg hn]; rfl) ?_ hR
    rw [size_ne (by decide), show bodyR 11 n s = (decide (s.length = 2) && wordsR 0 900 0 s) from rfl]
    show exactlyB (2 : Nat) 0 900 s = _
    rw [exact_words, bt (decide (s.length ≤ 24)) _ (fun h => by have := of_decide_eq_true (Bool.and_eq_true_iff.1 h).1; exact decide_eq_true (by omega))]
  · refine valid_of (R := rule12) (by unfold ruleS; rw [if_neg hn]; rfl) ?_ hR
    rw [size_ne (by decide), show bodyR 12 n s = ((decide (s.length = 8) && wordsR 0 7 0 s) && (List.range 8).all (unionOkR s)) from rfl]
    show (exactlyB (8 : Nat) 0 7 s && (List.range s.length).all (leastB s)) = _
    rw [exact_words]
    by_cases h8 : s.length = 8
    · rw [h8, decide_eq_true rfl, decide_eq_true (by omega), Bool.true_and, Bool.true_and]
      congr 1
    · rw [decide_eq_false h8]; simp
  · refine valid_of (R := rule13) (by unfold ruleS; rw [if_neg hn]; rfl) ?_ hR
    rw [size_ne (by decide), show bodyR 13 n s = (decide (s.length = 2) && wordsR 0 99 0 s) from rfl]
    show exactlyB (2 : Nat) 0 99 s = _
    rw [exact_words, bt (decide (s.length ≤ 24)) _ (fun h => by have := of_decide_eq_true (Bool.and_eq_true_iff.1 h).1; exact decide_eq_true (by omega))]
  · refine valid_of (R := rule14) (by unfold ruleS; rw [if_neg hn]; rfl) ?_ hR
    rw [size_ne (by decide), show bodyR 14 n s = (decide (s.length = 1) && inR (s.getD 0 0) 0 1000000) from rfl]
    show exactlyB 1 0 1000000 s = _
    rw [one_in, bt (decide (s.length ≤ 24)) _ (fun h => by have := of_decide_eq_true (Bool.and_eq_true_iff.1 h).1; exact decide_eq_true (by omega))]
  · refine valid_of (R := rule15) (by unfold ruleS; rw [if_neg hn]; rfl) ?_ hR
    show twinB s = (sizeR 15 s && (decide (0 < s.length) && (inR (s.getD 0 0) 0 ((s.length : Int) - 1) && wordsR 0 900 0 (s.drop 1))))
    rw [words0]
    unfold twinB sizeR wordsB inR
    rw [Bool.eq_iff_iff]
    simp only [Bool.and_eq_true, Bool.or_eq_true, decide_eq_true_eq, List.length_drop]
    constructor
    · rintro ⟨⟨⟨h1, h2⟩, h3⟩, h4, h5⟩
      exact ⟨⟨by omega, .inl trivial⟩, by omega, ⟨by omega, by omega⟩, h5⟩
    · rintro ⟨⟨h1, _⟩, h2, ⟨h3, h4⟩, h5⟩
      exact ⟨⟨⟨by omega, by omega⟩, by omega⟩, by omega, h5⟩
  · refine valid_of (R := rule16) (by unfold ruleS; rw [if_neg hn]; rfl) ?_ hR
    rw [size_ne (by decide), show bodyR 16 n s = (decide (s.length = 1) && inR (s.getD 0 0) (-1000000) 1000000) from rfl]
    show exactlyB 1 (-1000000) 1000000 s = _
    rw [one_in, bt (decide (s.length ≤ 24)) _ (fun h => by have := of_decide_eq_true (Bool.and_eq_true_iff.1 h).1; exact decide_eq_true (by omega))]
end Go.Proofs.YtiialjmpfeopjaaGreat.Sp
