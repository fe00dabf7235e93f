/- What the law about Run needs: Run of long lists; the first state of the document; one step, done by the document and by the program: plain lemmas; no condition. -/
import Derived.Test.YtiialjmpfeopjaaGreatLwA
import Derived.Test.YtiialjmpfeopjaaGreatPwX
import Derived.Test.YtiialjmpfeopjaaGreatRfD
import Derived.BigQuiet
import Derived.Deep.QuietTactic
namespace Go.Proofs.YtiialjmpfeopjaaGreat.Sp
open Go.RowKit Go.Sort Go.Proofs.YtiialjmpfeopjaaGreatW.PrintWords Go.Proofs.YtiialjmpfeopjaaGreatW.PrintLast Go.Proofs.YtiialjmpfeopjaaGreatW.PrintMore
set_option linter.unusedVariables false
set_option linter.unusedSimpArgs false
set_option maxHeartbeats 8000000
set_option maxRecDepth 100000
theorem run_long {r n : Int} (A : Option Addr) (c : Nat) {l : List CallT} (w : World) (h : 24 < l.length) :
    Calls Tryz.prog 17 #[.int .i64 r, .int .i64 n, .slice A l.length c] w fun e w' => ∃ v u, e = .returned (.tuple #[v, u, .int .i64 1]) ∧ Own w' w.heap.size v [] ∧ Own w' w.heap.size u [] ∧ (v.ownBlock = none ∨ v.ownBlock ≠ u.ownBlock) ∧ Below w.heap.size w w' := by
  have hst := Aside0.mk (start_calls r n w)
  generalize startS r n = st at hst
  obtain ⟨s0, e0⟩ := st
  go_enter Tryz.func17, Tryz.ntmps17
  go_wp2_with (go_at_call 34; refine (hst.out).mono ?_; rintro e w1 ⟨v1, rfl, ho, hb⟩; have B1 := Aside0.mk hb; obtain ⟨A1, c1, rfl⟩ := ho.slice; clear ho hb)
  all_goals first
    | refine bodyPost_ret (v := .tuple #[.slice none 0 0, .slice none 0 0, .int .i64 1]) (by simp [results, Tryz.results17, go_sem]) rfl ⟨_, _, rfl, own_none _ _, own_none _ _, .inl rfl, B1.out⟩
    | (rename_i q1 q2; exfalso; omega)
theorem run_any {r n : Int} (A : Option Addr) (c : Nat) {l : List CallT} (w : World) (hr : CallsAt w A l) {q : List Int × List Int × Int} (h : runS r n l = some q) :
    Calls Tryz.prog 17 #[.int .i64 r, .int .i64 n, .slice A l.length c] w fun e w' => ∃ v u, e = .returned (.tuple #[v, u, .int .i64 q.2.2]) ∧ Own w' w.heap.size v q.1 ∧ Own w' w.heap.size u q.2.1 ∧ (v.ownBlock = none ∨ v.ownBlock ≠ u.ownBlock) ∧ Below w.heap.size w w' := by
  by_cases hl : 24 < l.length
  · unfold runS at h
    rw [if_pos (.inr hl)] at h
    simp only [Option.some.injEq] at h
    subst h
    exact run_long A c w hl
  · exact run_calls A c w hr (by omega) h
def startR (r : Int) : List Int := if r = 10 ∨ r = 14 ∨ r = 15 ∨ r = 16 then [0] else if r = 11 ∨ r = 13 then [0, 0] else if r = 12 then [0, 1, 2, 3, 4, 5, 6, 7] else []
theorem ref_start (r : Int) (w : World) : Calls Tryz.prog 19 #[.int .i64 r] w fun e w' => ∃ v, e = .returned v ∧ Own w' w.heap.size v (startR r) ∧ Below w.heap.size w w' := by
  by_cases h10 : r = 10
  · subst h10
    go_enter Tryz.func19, Tryz.ntmps19
    go_wp2
    go_ret
    exact ⟨_, rfl, own_one w _ 0 (Nat.le_refl _), al1 w _⟩
  by_cases h14 : r = 14
  · subst h14
    go_enter Tryz.func19, Tryz.ntmps19
    go_wp2
    go_ret
    exact ⟨_, rfl, own_one w _ 0 (Nat.le_refl _), al1 w _⟩
  by_cases h15 : r = 15
  · subst h15
    go_enter Tryz.func19, Tryz.ntmps19
    go_wp2
    go_ret
    exact ⟨_, rfl, own_one w _ 0 (Nat.le_refl _), al1 w _⟩
  by_cases h16 : r = 16
  · subst h16
    go_enter Tryz.func19, Tryz.ntmps19
    go_wp2
    go_ret
    exact ⟨_, rfl, own_one w _ 0 (Nat.le_refl _), al1 w _⟩
  by_cases h11 : r = 11
  · subst h11
    go_enter Tryz.func19, Tryz.ntmps19
    go_wp2
    go_ret
    exact ⟨_, rfl, own_two w _ 0 0 (Nat.le_refl _), al1 w _⟩
  by_cases h13 : r = 13
  · subst h13
    go_enter Tryz.func19, Tryz.ntmps19
    go_wp2
    go_ret
    exact ⟨_, rfl, own_two w _ 0 0 (Nat.le_refl _), al1 w _⟩
  by_cases h12 : r = 12
  · subst h12
    go_enter Tryz.func19, Tryz.ntmps19
    go_wp2
    go_ret
    exact ⟨_, rfl, own_lit w _ 3 .i64 [0, 1, 2, 3, 4, 5, 6, 7] (Nat.le_refl _) (by simp), al1 w _⟩
  have e : startR r = [] := by unfold startR; rw [if_neg (by omega), if_neg (by omega), if_neg (by omega)]
  rw [e]
  have g10 : (r == (10 : Int)) = false := by simp; omega
  have g14 : (r == (14 : Int)) = false := by simp; omega
  have g15 : (r == (15 : Int)) = false := by simp; omega
  have g16 : (r == (16 : Int)) = false := by simp; omega
  have g11 : (r == (11 : Int)) = false := by simp; omega
  have g13 : (r == (13 : Int)) = false := by simp; omega
  have g12 : (r == (12 : Int)) = false := by simp; omega
  clear e
  go_enter Tryz.func19, Tryz.ntmps19
  go_wp2
  go_ret
  exact ⟨_, rfl, own_none _ _, Below.refl _ _⟩
theorem start_no {r n : Int} (h : ruleR r n = false) (l : List CallT) : runS r n l = some ([], [], 1) := by
  have hs : ruleS r n = none := by
    unfold ruleR inR at h
    unfold ruleS
    by_cases hn : n < 1 ∨ 8 < n
    · rw [if_pos hn]
    · rw [if_neg hn]
      have h2 : r < 1 ∨ 16 < r := by
        simp at h
        omega
      rw [if_neg (show ¬ r = 1 by omega)]
      rw [if_neg (show ¬ r = 2 by omega)]
      rw [if_neg (show ¬ r = 3 by omega)]
      rw [if_neg (show ¬ r = 4 by omega)]
      rw [if_neg (show ¬ r = 5 by omega)]
      rw [if_neg (show ¬ r = 6 by omega)]
      rw [if_neg (show ¬ r = 7 by omega)]
      rw [if_neg (show ¬ r = 8 by omega)]
      rw [if_neg (show ¬ r = 9 by omega)]
      rw [if_neg (show ¬ r = 10 by omega)]
      rw [if_neg (show ¬ r = 11 by omega)]
      rw [if_neg (show ¬ r = 12 by omega)]
      rw [if_neg (show ¬ r = 13 by omega)]
      rw [if_neg (show ¬ r = 14 by omega)]
      rw [if_neg (show ¬ r = 15 by omega)]
      rw [if_neg (show ¬ r = 16 by omega)]
  unfold runS startS
  rw [hs, if_pos (.inl (by decide))]
theorem start_yes {r n : Int} (h : ruleR r n = true) : startS r n = (startR r, 0) ∧ validR r n (startR r) = true := by
  unfold ruleR inR at h
  simp at h
  obtain ⟨⟨h1, h2⟩, h3, h4⟩ := h
  have hn : ¬ (n < 1 ∨ 8 < n) := by omega
  have hr : r = 1 ∨ r = 2 ∨ r = 3 ∨ r = 4 ∨ r = 5 ∨ r = 6 ∨ r = 7 ∨ r = 8 ∨ r = 9 ∨ r = 10 ∨ r = 11 ∨ r = 12 ∨ r = 13 ∨ r = 14 ∨ r = 15 ∨ r = 16 := by omega
  rw [← valid_eq]
  unfold startS validS
  rcases hr with rfl | rfl | rfl | rfl | rfl | rfl | rfl | rfl | rfl | rfl | rfl | rfl | rfl | rfl | rfl | rfl
  · have hs : ruleS 1 n = some rule1 := by unfold ruleS; rw [if_neg hn]; rfl
    rw [hs]
    exact ⟨rfl, by show (rule1).good (startR 1) = true; decide +kernel⟩
  · have hs : ruleS 2 n = some rule2 := by unfold ruleS; rw [if_neg hn]; rfl
    rw [hs]
    exact ⟨rfl, by show (rule2).good (startR 2) = true; decide +kernel⟩
  · have hs : ruleS 3 n = some (rule3 n) := by unfold ruleS; rw [if_neg hn]; rfl
    rw [hs]
    exact ⟨rfl, by show (rule3 n).good [] = true; show wordsB n 900 [] = true; unfold wordsB; simp [inB]; omega⟩
  · have hs : ruleS 4 n = some rule4 := by unfold ruleS; rw [if_neg hn]; rfl
    rw [hs]
    exact ⟨rfl, by show (rule4).good (startR 4) = true; decide +kernel⟩
  · have hs : ruleS 5 n = some rule5 := by unfold ruleS; rw [if_neg hn]; rfl
    rw [hs]
    exact ⟨rfl, by show (rule5).good (startR 5) = true; decide +kernel⟩
  · have hs : ruleS 6 n = some rule6 := by unfold ruleS; rw [if_neg hn]; rfl
    rw [hs]
    exact ⟨rfl, by show (rule6).good (startR 6) = true; decide +kernel⟩
  · have hs : ruleS 7 n = some rule7 := by unfold ruleS; rw [if_neg hn]; rfl
    rw [hs]
    exact ⟨rfl, by show (rule7).good (startR 7) = true; decide +kernel⟩
  · have hs : ruleS 8 n = some rule8 := by unfold ruleS; rw [if_neg hn]; rfl
    rw [hs]
    exact ⟨rfl, by show (rule8).good (startR 8) = true; decide +kernel⟩
  · have hs : ruleS 9 n = some rule9 := by unfold ruleS; rw [if_neg hn]; rfl
    rw [hs]
    exact ⟨rfl, by show (rule9).good (startR 9) = true; decide +kernel⟩
  · have hs : ruleS 10 n = some rule10 := by unfold ruleS; rw [if_neg hn]; rfl
    rw [hs]
    exact ⟨rfl, by show (rule10).good (startR 10) = true; decide +kernel⟩
  · have hs : ruleS 11 n = some rule11 := by unfold ruleS; rw [if_neg hn]; rfl
    rw [hs]
    exact ⟨rfl, by show (rule11).good (startR 11) = true; decide +kernel⟩
  · have hs : ruleS 12 n = some rule12 := by unfold ruleS; rw [if_neg hn]; rfl
    rw [hs]
    exact ⟨rfl, by show (rule12).good (startR 12) = true; decide +kernel⟩
  · have hs : ruleS 13 n = some rule13 := by unfold ruleS; rw [if_neg hn]; rfl
    rw [hs]
    exact ⟨rfl, by show (rule13).good (startR 13) = true; decide +kernel⟩
  · have hs : ruleS 14 n = some rule14 := by unfold ruleS; rw [if_neg hn]; rfl
    rw [hs]
    exact ⟨rfl, by show (rule14).good (startR 14) = true; decide +kernel⟩
  · have hs : ruleS 15 n = some rule15 := by unfold ruleS; rw [if_neg hn]; rfl
    rw [hs]
    exact ⟨rfl, by show (rule15).good (startR 15) = true; decide +kernel⟩
  · have hs : ruleS 16 n = some rule16 := by unfold ruleS; rw [if_neg hn]; rfl
    rw [hs]
    exact ⟨rfl, by show (rule16).good (startR 16) = true; decide +kernel⟩
/-- One step of the document, and of the program. -/
structure StepOK (r n : Int) (s : List Int) (op : ByteArray) (x y o : Int) (l : List Int) : Prop where
  res : ∃ L, 0 < L.length ∧ L.getD 0 0 = o ∧ ∀ A c W, Rd W A s → s.length ≤ c → ResAt r n A c s op x y 0 W L
  nxt : ∀ A c W, Rd W A s → s.length ≤ c → NextAt r n A c s op x y 0 o W l true
  len : l.length ≤ 100000
theorem step_no {r n : Int} {s : List Int} {op : ByteArray} {x y : Int} (hm : mayR r op x y 0 = false) : doS r n s op x y 0 = some ([], 0, 1) := by
  unfold doS
  rw [ask_no (by rw [hm, Bool.and_false])]
theorem step_yes {r n : Int} {s : List Int} {op : ByteArray} {x y : Int} (hv : validR r n s = true) (hm : mayR r op x y 0 = true) : ∃ o l, StepOK r n s op x y o l ∧ (validR r n l = false → doS r n s op x y 0 = some ([], 0, 1)) ∧ (validR r n l = true → doS r n s op x y 0 = some (l, o, 0)) := by
  obtain ⟨E, hE, hD, hS, hl1⟩ := ask_yes (show (validR r n s && mayR r op x y 0) = true by rw [hv, hm]; rfl)
  cases E with
  | nil => exact absurd rfl hD.ne
  | cons e0 E' =>
    obtain ⟨o0, l0⟩ := e0
    have hn := hD.nxt o0
    have hi : idxE o0 ((o0, l0) :: E') = some 0 := idxE_some (k := 0) (by simp) (fun j h hj => absurd hj (Nat.not_lt_zero _)) (by simp)
    rw [hi] at hn
    have hLl : l0.length ≤ 100000 := hS.2 _ List.mem_cons_self
    refine ⟨o0, l0, ⟨⟨_, by simp, rfl, hD.res⟩, hn, hLl⟩, fun h => ?_, fun h => ?_⟩
    · unfold doS; rw [hE]; simp only; rw [if_pos (by omega), valid_eq, h]; rfl
    · unfold doS; rw [hE]; simp only; rw [if_pos (by omega), valid_eq, h]; rfl
theorem run_all {r n : Int} : ∀ (l : List CallT) (s acc : List Int), validR r n s = true → ∃ q, runL r n l s acc = some q
  | [], s, acc, _ => ⟨_, rfl⟩
  | c :: l, s, acc, hv => by
    unfold runL
    cases hm : mayR r c.1 c.2.1 c.2.2 0 with
    | false => rw [step_no hm]; exact ⟨_, rfl⟩
    | true =>
      obtain ⟨o, l1, hS, h0, h1⟩ := step_yes hv hm
      cases hv1 : validR r n l1 with
      | false => rw [h0 hv1]; exact ⟨_, rfl⟩
      | true =>
        rw [h1 hv1]
        simp only
        rw [if_pos trivial, if_pos (by have := hS.len; omega)]
        exact run_all l l1 (acc ++ [o]) hv1
theorem start_len (r : Int) : (startR r).length ≤ 8 := by
  unfold startR
  split
  · decide
  · split
    · decide
    · split <;> decide
theorem run_some {r n : Int} {l : List CallT} (h : ruleR r n = true) (hl : l.length ≤ 24) : ∃ q, runS r n l = some q ∧ runL r n l (startR r) [] = some q := by
  obtain ⟨h1, h2⟩ := start_yes h
  obtain ⟨q, hq⟩ := run_all l (startR r) [] h2
  refine ⟨q, ?_, hq⟩
  unfold runS
  rw [h1, if_neg (by simp; omega), if_pos (by have := start_len r; show (startR r).length ≤ _; omega)]
  exact hq
end Go.Proofs.YtiialjmpfeopjaaGreat.Sp
