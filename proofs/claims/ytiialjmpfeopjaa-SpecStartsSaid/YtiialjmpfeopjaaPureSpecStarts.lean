/- What the first state of each rule is, and that it is one of its states: the plain law; no condition. -/
import Derived.Test.YtiialjmpfeopjaaXSa1
import Derived.Test.YtiialjmpfeopjaaPwB
namespace Go.Proofs.Ytiialjmpfeopjaa.Pure
open Go.RowKit Go.Proofs.Ytiialjmpfeopjaa.XSa Go.Proofs.YtiialjmpfeopjaaW.PrintWords Go.Proofs.YtiialjmpfeopjaaW.PrintLast
set_option linter.unusedVariables false
set_option linter.unusedSimpArgs false
theorem awake_true : locklesslaw18_awake.f = some true := by
  unfold locklesslaw18_awake.f spec_Run.f
  have h : Sp.runS 2 1 (List.map callT [(⟨⟨#[101, 110, 113]⟩, 5, 0⟩ : S27), ⟨⟨#[101, 110, 113]⟩, 6, 0⟩, ⟨⟨#[100, 101, 113]⟩, 0, 0⟩]) = some ([0, 0, 5], [6], 0) := Sp.awake_run
  rw [if_pos (by decide), h]
  rfl
theorem in_some (a b c : Int) : locklessref18_in.f a b c = some (decide (b ≤ a) && decide (a ≤ c)) := by
  unfold locklessref18_in.f
  by_cases h : a ≥ b
  · rw [if_pos h, decide_eq_true (show b ≤ a from h), Bool.true_and]
  · rw [if_neg h, decide_eq_false (show ¬ b ≤ a from h), Bool.false_and]
theorem rule_some (r n : Int) : locklessref18_Rule.f r n = some ((decide (1 ≤ r) && decide (r ≤ 16)) && (decide (1 ≤ n) && decide (n ≤ 8))) := by
  unfold locklessref18_Rule.f
  rw [in_some, in_some]
  cases (decide (1 ≤ r) && decide (r ≤ 16)) <;> rfl
theorem starts_no (r n : Int) (h : Sp.ruleS r n = none) (hr : ((decide (1 ≤ r) && decide (r ≤ 16)) && (decide (1 ≤ n) && decide (n ≤ 8))) = false) : locklesslaw18_SpecStarts.f 0 r n = some true := by
  unfold locklesslaw18_SpecStarts.f spec_Start.f
  have hs : Sp.startS r n = ([], 1) := by unfold Sp.startS; rw [h]
  rw [awake_true, rule_some, hr, hs]
  rfl
theorem starts_yes (r n : Int) (R : Sp.RuleS) (l : List Int) (hl : l.length ≤ 8) (h : Sp.ruleS r n = some R) (hr : ((decide (1 ≤ r) && decide (r ≤ 16)) && (decide (1 ≤ n) && decide (n ≤ 8))) = true) (hs : R.start = l) (hf : locklessref18_Start.f 20 r = some l) (hm : locklesslaw18_same.f 20 l l = some true) (hg : R.good l = true) : locklesslaw18_SpecStarts.f 20 r n = some true := by
  unfold locklesslaw18_SpecStarts.f spec_Start.f
  have hs : Sp.startS r n = (l, 0) := by unfold Sp.startS; rw [h, ← hs]
  have hv : spec_Valid.f r n l = some true := by
    unfold spec_Valid.f Sp.validS
    rw [if_pos (by omega), h]
    show some (R.good l) = _
    rw [hg]
  rw [awake_true, rule_some, hr, hs, hf]
  simp only [Option.bind_some, if_true]
  rw [hm]
  simp only [Option.bind_some, if_true]
  rw [hv]
  rfl
theorem SpecStarts : locklesslaw18_SpecStarts.Pure := by
  intro r n hr hn
  by_cases hn8 : n < 1 ∨ 8 < n
  · refine ⟨0, starts_no r n (by unfold Sp.ruleS; rw [if_pos hn8]) ?_⟩
    rcases hn8 with h | h <;> simp <;> omega
  · by_cases hr16 : r < 1 ∨ 16 < r
    · refine ⟨0, starts_no r n ?_ ?_⟩
      · unfold Sp.ruleS
        rw [if_neg hn8, if_neg (by omega), if_neg (by omega), if_neg (by omega), if_neg (by omega), if_neg (by omega), if_neg (by omega), if_neg (by omega), if_neg (by omega), if_neg (by omega), if_neg (by omega), if_neg (by omega), if_neg (by omega), if_neg (by omega), if_neg (by omega), if_neg (by omega), if_neg (by omega)]
      · rcases hr16 with h | h <;> simp <;> omega
    · have hc : r = 1 ∨ r = 2 ∨ r = 3 ∨ r = 4 ∨ r = 5 ∨ r = 6 ∨ r = 7 ∨ r = 8 ∨ r = 9 ∨ r = 10 ∨ r = 11 ∨ r = 12 ∨ r = 13 ∨ r = 14 ∨ r = 15 ∨ r = 16 := by omega
      have hn1 : (decide (1 ≤ n) && decide (n ≤ 8)) = true := by simp; omega
      have e : ∀ q : Int, ¬ (n < 1 ∨ 8 < n) := fun _ => hn8
      rcases hc with rfl | rfl | rfl | rfl | rfl | rfl | rfl | rfl | rfl | rfl | rfl | rfl | rfl | rfl | rfl | rfl
      · exact ⟨20, starts_yes 1 n Sp.rule1 [] (by decide) (by unfold Sp.ruleS; rw [if_neg hn8]; rfl) (by rw [hn1]; rfl) rfl (by rfl) (by decide +kernel) (by rfl)⟩
      · exact ⟨20, starts_yes 2 n Sp.rule2 [] (by decide) (by unfold Sp.ruleS; rw [if_neg hn8]; rfl) (by rw [hn1]; rfl) rfl (by rfl) (by decide +kernel) (by rfl)⟩
      · exact ⟨20, starts_yes 3 n (Sp.rule3 n) [] (by decide) (by unfold Sp.ruleS; rw [if_neg hn8]; rfl) (by rw [hn1]; rfl) rfl (by rfl) (by decide +kernel) (by show (decide (((0 : Nat) : Int) ≤ n) && Sp.inB 0 900 []) = true; rw [decide_eq_true (by omega)]; rfl)⟩
      · exact ⟨20, starts_yes 4 n Sp.rule4 [] (by decide) (by unfold Sp.ruleS; rw [if_neg hn8]; rfl) (by rw [hn1]; rfl) rfl (by rfl) (by decide +kernel) (by rfl)⟩
      · exact ⟨20, starts_yes 5 n Sp.rule5 [] (by decide) (by unfold Sp.ruleS; rw [if_neg hn8]; rfl) (by rw [hn1]; rfl) rfl (by rfl) (by decide +kernel) (by rfl)⟩
      · exact ⟨20, starts_yes 6 n Sp.rule6 [] (by decide) (by unfold Sp.ruleS; rw [if_neg hn8]; rfl) (by rw [hn1]; rfl) rfl (by rfl) (by decide +kernel) (by rfl)⟩
      · exact ⟨20, starts_yes 7 n Sp.rule7 [] (by decide) (by unfold Sp.ruleS; rw [if_neg hn8]; rfl) (by rw [hn1]; rfl) rfl (by rfl) (by decide +kernel) (by rfl)⟩
      · exact ⟨20, starts_yes 8 n Sp.rule8 [] (by decide) (by unfold Sp.ruleS; rw [if_neg hn8]; rfl) (by rw [hn1]; rfl) rfl (by rfl) (by decide +kernel) (by rfl)⟩
      · exact ⟨20, starts_yes 9 n Sp.rule9 [] (by decide) (by unfold Sp.ruleS; rw [if_neg hn8]; rfl) (by rw [hn1]; rfl) rfl (by rfl) (by decide +kernel) (by rfl)⟩
      · exact ⟨20, starts_yes 10 n Sp.rule10 [0] (by decide) (by unfold Sp.ruleS; rw [if_neg hn8]; rfl) (by rw [hn1]; rfl) rfl (by rfl) (by decide +kernel) (by rfl)⟩
      · exact ⟨20, starts_yes 11 n Sp.rule11 [0, 0] (by decide) (by unfold Sp.ruleS; rw [if_neg hn8]; rfl) (by rw [hn1]; rfl) rfl (by rfl) (by decide +kernel) (by rfl)⟩
      · exact ⟨20, starts_yes 12 n Sp.rule12 [0, 1, 2, 3, 4, 5, 6, 7] (by decide) (by unfold Sp.ruleS; rw [if_neg hn8]; rfl) (by rw [hn1]; rfl) rfl (by rfl) (by decide +kernel) (by decide +kernel)⟩
      · exact ⟨20, starts_yes 13 n Sp.rule13 [0, 0] (by decide) (by unfold Sp.ruleS; rw [if_neg hn8]; rfl) (by rw [hn1]; rfl) rfl (by rfl) (by decide +kernel) (by rfl)⟩
      · exact ⟨20, starts_yes 14 n Sp.rule14 [0] (by decide) (by unfold Sp.ruleS; rw [if_neg hn8]; rfl) (by rw [hn1]; rfl) rfl (by rfl) (by decide +kernel) (by rfl)⟩
      · exact ⟨20, starts_yes 15 n Sp.rule15 [0] (by decide) (by unfold Sp.ruleS; rw [if_neg hn8]; rfl) (by rw [hn1]; rfl) rfl (by rfl) (by decide +kernel) (by rfl)⟩
      · exact ⟨20, starts_yes 16 n Sp.rule16 [0] (by decide) (by unfold Sp.ruleS; rw [if_neg hn8]; rfl) (by rw [hn1]; rfl) rfl (by rfl) (by decide +kernel) (by rfl)⟩
end Go.Proofs.Ytiialjmpfeopjaa.Pure
