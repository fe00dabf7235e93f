/- The document's test of a state, walked, rule by rule: plain lemmas; no condition. -/
import Derived.Test.YtiialjmpfeopjaaGreatRfA
namespace Go.Proofs.YtiialjmpfeopjaaGreat.Sp
open Go.RowKit Go.Sort Go.Proofs.YtiialjmpfeopjaaGreatW.PrintWords Go.Proofs.YtiialjmpfeopjaaGreatW.PrintLast Go.Proofs.YtiialjmpfeopjaaGreatW.PrintMore
set_option linter.unusedVariables false
set_option linter.unusedSimpArgs false
set_option maxHeartbeats 8000000
set_option maxRecDepth 100000
def unionOkR (s : List Int) (i : Nat) : Bool := decide (s.getD i 0 ≤ (i : Int)) && (s.getD (s.getD i 0).toNat 0 == s.getD i 0)
def unionR (s : List Int) : Bool := (decide (s.length = 8) && wordsR 0 7 0 s) && (List.range 8).all (unionOkR s)
def bodyR (r n : Int) (s : List Int) : Bool :=
  if r = 1 ∨ r = 2 ∨ r = 4 then wordsR 0 900 0 s
  else if r = 3 then decide ((s.length : Int) ≤ n) && wordsR 0 900 0 s
  else if r = 5 ∨ r = 6 then wordsR 0 900 1 s
  else if r = 7 then wordsR 0 900 2 s
  else if r = 8 then wordsR 0 15 2 s
  else if r = 9 then wordsR 0 1000000000000000 2 s
  else if r = 10 then decide (s.length = 1) && wordsR 0 900 0 s
  else if r = 11 then decide (s.length = 2) && wordsR 0 900 0 s
  else if r = 12 then unionR s
  else if r = 13 then decide (s.length = 2) && wordsR 0 99 0 s
  else if r = 14 then decide (s.length = 1) && inR (s.getD 0 0) 0 1000000
  else if r = 15 then decide (0 < s.length) && (inR (s.getD 0 0) 0 ((s.length : Int) - 1) && wordsR 0 900 0 (s.drop 1))
  else decide (s.length = 1) && inR (s.getD 0 0) (-1000000) 1000000
def sizeR (r : Int) (s : List Int) : Bool := decide (s.length ≤ 25) && (decide (r = 15) || decide (s.length ≤ 24))
def validR (r n : Int) (s : List Int) : Bool := ruleR r n && (sizeR r s && bodyR r n s)
def ValidAt (r n : Int) (A : Option Addr) (c : Nat) (s : List Int) (b : Bool) (w : World) : Prop :=
  Calls Tryz.prog 15 #[.int .i64 r, .int .i64 n, .slice A s.length c] w fun e w' => e = .returned (.bool b) ∧ ∃ q, w' = w.drewN q
theorem val_norule (r n : Int) (A : Option Addr) (c : Nat) (s : List Int) (w : World) (h : ruleR r n = false) : ValidAt r n A c s false w := by
  have HR := Aside0.mk (ref_rule r n w)
  rw [h] at HR
  unfold ValidAt
  clear h
  go_enter Tryz.func15, Tryz.ntmps15
  go_wp2_with (go_at_call 18; refine (HR.out).mono ?_; rintro e w1 ⟨rfl, hw⟩; rw [hw]; clear hw)
  go_ret
  exact ⟨rfl, 0, rfl⟩
theorem val_long (r n : Int) (A : Option Addr) (c : Nat) (s : List Int) (w : World) (h : ruleR r n = true) (hm : s.length ≤ 9223372036854775807) (hl : sizeR r s = false) : ValidAt r n A c s false w := by
  have HR := Aside0.mk (ref_rule r n w)
  rw [h] at HR
  unfold ValidAt
  clear h
  by_cases h25 : 25 < s.length
  · clear hl
    go_enter Tryz.func15, Tryz.ntmps15
    go_wp2_with (go_at_call 18; refine (HR.out).mono ?_; rintro e w1 ⟨rfl, hw⟩; rw [hw]; clear hw)
    go_ret
    exact ⟨rfl, 0, rfl⟩
  · have hlen : s.length = 25 := by
      unfold sizeR at hl
      by_cases h24 : s.length ≤ 24
      · rw [decide_eq_true h24, decide_eq_true (show s.length ≤ 25 by omega)] at hl; simp at hl
      · omega
    have hr15 : (r != 15) = true := by
      unfold sizeR at hl
      by_cases e : r = 15
      · rw [decide_eq_true e, decide_eq_true (show s.length ≤ 25 by omega)] at hl; simp at hl
      · simpa using e
    clear hl h25
    go_enter Tryz.func15, Tryz.ntmps15
    go_wp2_with (go_at_call 18; refine (HR.out).mono ?_; rintro e w1 ⟨rfl, hw⟩; rw [hw]; clear hw)
    go_ret
    exact ⟨rfl, 0, rfl⟩
theorem val_1 (n : Int) (A : Option Addr) (c : Nat) (s : List Int) (w : World) (h : ruleR 1 n = true) (hr : Rd w A s) (hc : s.length ≤ c) (hl : s.length ≤ 24) : ValidAt 1 n A c s (bodyR 1 n s) w := by
  have HR := Aside0.mk (ref_rule 1 n w)
  rw [h] at HR
  unfold ValidAt
  clear h
  have HW := Aside0.mk (ref_words 0 900 0 (.inl rfl) A c s w hr)
  rw [show bodyR 1 n s = wordsR 0 900 0 s from rfl]
  generalize wordsR 0 900 0 s = b at *
  clear hr
  go_enter Tryz.func15, Tryz.ntmps15
  go_wp2_with (first | (go_at_call 18; refine (HR.out).mono ?_; rintro e w1 ⟨rfl, hw⟩; rw [hw]; clear hw) | (go_at_call 32; refine (HW.out).mono ?_; rintro e w2 ⟨rfl, q, hw⟩; have HQ := Aside0.mk hw; clear hw))
  go_ret
  exact ⟨rfl, q, HQ.out⟩
theorem val_2 (n : Int) (A : Option Addr) (c : Nat) (s : List Int) (w : World) (h : ruleR 2 n = true) (hr : Rd w A s) (hc : s.length ≤ c) (hl : s.length ≤ 24) : ValidAt 2 n A c s (bodyR 2 n s) w := by
  have HR := Aside0.mk (ref_rule 2 n w)
  rw [h] at HR
  unfold ValidAt
  clear h
  have HW := Aside0.mk (ref_words 0 900 0 (.inl rfl) A c s w hr)
  rw [show bodyR 2 n s = wordsR 0 900 0 s from rfl]
  generalize wordsR 0 900 0 s = b at *
  clear hr
  go_enter Tryz.func15, Tryz.ntmps15
  go_wp2_with (first | (go_at_call 18; refine (HR.out).mono ?_; rintro e w1 ⟨rfl, hw⟩; rw [hw]; clear hw) | (go_at_call 32; refine (HW.out).mono ?_; rintro e w2 ⟨rfl, q, hw⟩; have HQ := Aside0.mk hw; clear hw))
  go_ret
  exact ⟨rfl, q, HQ.out⟩
theorem val_3 (n : Int) (A : Option Addr) (c : Nat) (s : List Int) (w : World) (h : ruleR 3 n = true) (hr : Rd w A s) (hc : s.length ≤ c) (hl : s.length ≤ 24) : ValidAt 3 n A c s (bodyR 3 n s) w := by
  have HR := Aside0.mk (ref_rule 3 n w)
  rw [h] at HR
  unfold ValidAt
  clear h
  have HW := Aside0.mk (ref_words 0 900 0 (.inl rfl) A c s w hr)
  rw [show bodyR 3 n s = (decide ((s.length : Int) ≤ n) && wordsR 0 900 0 s) from rfl]
  generalize wordsR 0 900 0 s = b at *
  clear hr
  by_cases hq : (s.length : Int) ≤ n
  · rw [decide_eq_true hq, Bool.true_and]
    skip
    go_enter Tryz.func15, Tryz.ntmps15
    go_wp2_with (first | (go_at_call 18; refine (HR.out).mono ?_; rintro e w1 ⟨rfl, hw⟩; rw [hw]; clear hw) | (go_at_call 32; refine (HW.out).mono ?_; rintro e w2 ⟨rfl, q, hw⟩; have HQ := Aside0.mk hw; clear hw))
    go_ret
    exact ⟨rfl, q, HQ.out⟩
  · rw [decide_eq_false hq, Bool.false_and]
    skip
    go_enter Tryz.func15, Tryz.ntmps15
    go_wp2_with (first | (go_at_call 18; refine (HR.out).mono ?_; rintro e w1 ⟨rfl, hw⟩; rw [hw]; clear hw))
    go_ret
    exact ⟨rfl, 0, rfl⟩
theorem val_4 (n : Int) (A : Option Addr) (c : Nat) (s : List Int) (w : World) (h : ruleR 4 n = true) (hr : Rd w A s) (hc : s.length ≤ c) (hl : s.length ≤ 24) : ValidAt 4 n A c s (bodyR 4 n s) w := by
  have HR := Aside0.mk (ref_rule 4 n w)
  rw [h] at HR
  unfold ValidAt
  clear h
  have HW := Aside0.mk (ref_words 0 900 0 (.inl rfl) A c s w hr)
  rw [show bodyR 4 n s = wordsR 0 900 0 s from rfl]
  generalize wordsR 0 900 0 s = b at *
  clear hr
  go_enter Tryz.func15, Tryz.ntmps15
  go_wp2_with (first | (go_at_call 18; refine (HR.out).mono ?_; rintro e w1 ⟨rfl, hw⟩; rw [hw]; clear hw) | (go_at_call 32; refine (HW.out).mono ?_; rintro e w2 ⟨rfl, q, hw⟩; have HQ := Aside0.mk hw; clear hw))
  go_ret
  exact ⟨rfl, q, HQ.out⟩
theorem val_5 (n : Int) (A : Option Addr) (c : Nat) (s : List Int) (w : World) (h : ruleR 5 n = true) (hr : Rd w A s) (hc : s.length ≤ c) (hl : s.length ≤ 24) : ValidAt 5 n A c s (bodyR 5 n s) w := by
  have HR := Aside0.mk (ref_rule 5 n w)
  rw [h] at HR
  unfold ValidAt
  clear h
  have HW := Aside0.mk (ref_words 0 900 1 (.inr (.inl rfl)) A c s w hr)
  rw [show bodyR 5 n s = wordsR 0 900 1 s from rfl]
  generalize wordsR 0 900 1 s = b at *
  clear hr
  go_enter Tryz.func15, Tryz.ntmps15
  go_wp2_with (first | (go_at_call 18; refine (HR.out).mono ?_; rintro e w1 ⟨rfl, hw⟩; rw [hw]; clear hw) | (go_at_call 32; refine (HW.out).mono ?_; rintro e w2 ⟨rfl, q, hw⟩; have HQ := Aside0.mk hw; clear hw))
  go_ret
  exact ⟨rfl, q, HQ.out⟩
theorem val_6 (n : Int) (A : Option Addr) (c : Nat) (s : List Int) (w : World) (h : ruleR 6 n = true) (hr : Rd w A s) (hc : s.length ≤ c) (hl : s.length ≤ 24) : ValidAt 6 n A c s (bodyR 6 n s) w := by
  have HR := Aside0.mk (ref_rule 6 n w)
  rw [h] at HR
  unfold ValidAt
  clear h
  have HW := Aside0.mk (ref_words 0 900 1 (.inr (.inl rfl)) A c s w hr)
  rw [show bodyR 6 n s = wordsR 0 900 1 s from rfl]
  generalize wordsR 0 900 1 s = b at *
  clear hr
  go_enter Tryz.func15, Tryz.ntmps15
  go_wp2_with (first | (go_at_call 18; refine (HR.out).mono ?_; rintro e w1 ⟨rfl, hw⟩; rw [hw]; clear hw) | (go_at_call 32; refine (HW.out).mono ?_; rintro e w2 ⟨rfl, q, hw⟩; have HQ := Aside0.mk hw; clear hw))
  go_ret
  exact ⟨rfl, q, HQ.out⟩
theorem val_7 (n : Int) (A : Option Addr) (c : Nat) (s : List Int) (w : World) (h : ruleR 7 n = true) (hr : Rd w A s) (hc : s.length ≤ c) (hl : s.length ≤ 24) : ValidAt 7 n A c s (bodyR 7 n s) w := by
  have HR := Aside0.mk (ref_rule 7 n w)
  rw [h] at HR
  unfold ValidAt
  clear h
  have HW := Aside0.mk (ref_words 0 900 2 (.inr (.inr rfl)) A c s w hr)
  rw [show bodyR 7 n s = wordsR 0 900 2 s from rfl]
  generalize wordsR 0 900 2 s = b at *
  clear hr
  go_enter Tryz.func15, Tryz.ntmps15
  go_wp2_with (first | (go_at_call 18; refine (HR.out).mono ?_; rintro e w1 ⟨rfl, hw⟩; rw [hw]; clear hw) | (go_at_call 32; refine (HW.out).mono ?_; rintro e w2 ⟨rfl, q, hw⟩; have HQ := Aside0.mk hw; clear hw))
  go_ret
  exact ⟨rfl, q, HQ.out⟩
theorem val_8 (n : Int) (A : Option Addr) (c : Nat) (s : List Int) (w : World) (h : ruleR 8 n = true) (hr : Rd w A s) (hc : s.length ≤ c) (hl : s.length ≤ 24) : ValidAt 8 n A c s (bodyR 8 n s) w := by
  have HR := Aside0.mk (ref_rule 8 n w)
  rw [h] at HR
  unfold ValidAt
  clear h
  have HW := Aside0.mk (ref_words 0 15 2 (.inr (.inr rfl)) A c s w hr)
  rw [show bodyR 8 n s = wordsR 0 15 2 s from rfl]
  generalize wordsR 0 15 2 s = b at *
  clear hr
  go_enter Tryz.func15, Tryz.ntmps15
  go_wp2_with (first | (go_at_call 18; refine (HR.out).mono ?_; rintro e w1 ⟨rfl, hw⟩; rw [hw]; clear hw) | (go_at_call 32; refine (HW.out).mono ?_; rintro e w2 ⟨rfl, q, hw⟩; have HQ := Aside0.mk hw; clear hw))
  go_ret
  exact ⟨rfl, q, HQ.out⟩
theorem val_9 (n : Int) (A : Option Addr) (c : Nat) (s : List Int) (w : World) (h : ruleR 9 n = true) (hr : Rd w A s) (hc : s.length ≤ c) (hl : s.length ≤ 24) : ValidAt 9 n A c s (bodyR 9 n s) w := by
  have HR := Aside0.mk (ref_rule 9 n w)
  rw [h] at HR
  unfold ValidAt
  clear h
  have HW := Aside0.mk (ref_words 0 1000000000000000 2 (.inr (.inr rfl)) A c s w hr)
  rw [show bodyR 9 n s = wordsR 0 1000000000000000 2 s from rfl]
  generalize wordsR 0 1000000000000000 2 s = b at *
  clear hr
  go_enter Tryz.func15, Tryz.ntmps15
  go_wp2_with (first | (go_at_call 18; refine (HR.out).mono ?_; rintro e w1 ⟨rfl, hw⟩; rw [hw]; clear hw) | (go_at_call 32; refine (HW.out).mono ?_; rintro e w2 ⟨rfl, q, hw⟩; have HQ := Aside0.mk hw; clear hw))
  go_ret
  exact ⟨rfl, q, HQ.out⟩
theorem val_10 (n : Int) (A : Option Addr) (c : Nat) (s : List Int) (w : World) (h : ruleR 10 n = true) (hr : Rd w A s) (hc : s.length ≤ c) (hl : s.length ≤ 24) : ValidAt 10 n A c s (bodyR 10 n s) w := by
  have HR := Aside0.mk (ref_rule 10 n w)
  rw [h] at HR
  unfold ValidAt
  clear h
  have HW := Aside0.mk (ref_words 0 900 0 (.inl rfl) A c s w hr)
  rw [show bodyR 10 n s = (decide (s.length = 1) && wordsR 0 900 0 s) from rfl]
  generalize wordsR 0 900 0 s = b at *
  clear hr
  by_cases hq : s.length = 1
  · rw [decide_eq_true hq, Bool.true_and]
    rw [hq] at HW ⊢; clear hq hl hc
    go_enter Tryz.func15, Tryz.ntmps15
    go_wp2_with (first | (go_at_call 18; refine (HR.out).mono ?_; rintro e w1 ⟨rfl, hw⟩; rw [hw]; clear hw) | (go_at_call 32; refine (HW.out).mono ?_; rintro e w2 ⟨rfl, q, hw⟩; have HQ := Aside0.mk hw; clear hw))
    go_ret
    exact ⟨rfl, q, HQ.out⟩
  · rw [decide_eq_false hq, Bool.false_and]
    have hne : ((s.length : Int) == 1) = false := by simp; omega
    go_enter Tryz.func15, Tryz.ntmps15
    go_wp2_with (first | (go_at_call 18; refine (HR.out).mono ?_; rintro e w1 ⟨rfl, hw⟩; rw [hw]; clear hw))
    go_ret
    exact ⟨rfl, 0, rfl⟩
theorem val_11 (n : Int) (A : Option Addr) (c : Nat) (s : List Int) (w : World) (h : ruleR 11 n = true) (hr : Rd w A s) (hc : s.length ≤ c) (hl : s.length ≤ 24) : ValidAt 11 n A c s (bodyR 11 n s) w := by
  have HR := Aside0.mk (ref_rule 11 n w)
  rw [h] at HR
  unfold ValidAt
  clear h
  have HW := Aside0.mk (ref_words 0 900 0 (.inl rfl) A c s w hr)
  rw [show bodyR 11 n s = (decide (s.length = 2) && wordsR 0 900 0 s) from rfl]
  generalize wordsR 0 900 0 s = b at *
  clear hr
  by_cases hq : s.length = 2
  · rw [decide_eq_true hq, Bool.true_and]
    rw [hq] at HW ⊢; clear hq hl hc
    go_enter Tryz.func15, Tryz.ntmps15
    go_wp2_with (first | (go_at_call 18; refine (HR.out).mono ?_; rintro e w1 ⟨rfl, hw⟩; rw [hw]; clear hw) | (go_at_call 32; refine (HW.out).mono ?_; rintro e w2 ⟨rfl, q, hw⟩; have HQ := Aside0.mk hw; clear hw))
    go_ret
    exact ⟨rfl, q, HQ.out⟩
  · rw [decide_eq_false hq, Bool.false_and]
    have hne : ((s.length : Int) == 2) = false := by simp; omega
    go_enter Tryz.func15, Tryz.ntmps15
    go_wp2_with (first | (go_at_call 18; refine (HR.out).mono ?_; rintro e w1 ⟨rfl, hw⟩; rw [hw]; clear hw))
    go_ret
    exact ⟨rfl, 0, rfl⟩
theorem val_13 (n : Int) (A : Option Addr) (c : Nat) (s : List Int) (w : World) (h : ruleR 13 n = true) (hr : Rd w A s) (hc : s.length ≤ c) (hl : s.length ≤ 24) : ValidAt 13 n A c s (bodyR 13 n s) w := by
  have HR := Aside0.mk (ref_rule 13 n w)
  rw [h] at HR
  unfold ValidAt
  clear h
  have HW := Aside0.mk (ref_words 0 99 0 (.inl rfl) A c s w hr)
  rw [show bodyR 13 n s = (decide (s.length = 2) && wordsR 0 99 0 s) from rfl]
  generalize wordsR 0 99 0 s = b at *
  clear hr
  by_cases hq : s.length = 2
  · rw [decide_eq_true hq, Bool.true_and]
    rw [hq] at HW ⊢; clear hq hl hc
    go_enter Tryz.func15, Tryz.ntmps15
    go_wp2_with (first | (go_at_call 18; refine (HR.out).mono ?_; rintro e w1 ⟨rfl, hw⟩; rw [hw]; clear hw) | (go_at_call 32; refine (HW.out).mono ?_; rintro e w2 ⟨rfl, q, hw⟩; have HQ := Aside0.mk hw; clear hw))
    go_ret
    exact ⟨rfl, q, HQ.out⟩
  · rw [decide_eq_false hq, Bool.false_and]
    have hne : ((s.length : Int) == 2) = false := by simp; omega
    go_enter Tryz.func15, Tryz.ntmps15
    go_wp2_with (first | (go_at_call 18; refine (HR.out).mono ?_; rintro e w1 ⟨rfl, hw⟩; rw [hw]; clear hw))
    go_ret
    exact ⟨rfl, 0, rfl⟩
theorem val_14 (n : Int) (A : Option Addr) (c : Nat) (s : List Int) (w : World) (h : ruleR 14 n = true) (hr : Rd w A s) (hc : s.length ≤ c) (hl : s.length ≤ 24) : ValidAt 14 n A c s (bodyR 14 n s) w := by
  have HR := Aside0.mk (ref_rule 14 n w)
  rw [h] at HR
  unfold ValidAt
  clear h
  rw [show bodyR 14 n s = (decide (s.length = 1) && inR (s.getD 0 0) 0 1000000) from rfl]
  by_cases hq : s.length = 1
  · rw [decide_eq_true hq, Bool.true_and]
    obtain ⟨ad, rfl, hc1⟩ := hr.at 0 (by omega)
    rw [show ad.add 0 = ad from by simp [Addr.add]] at hc1
    have HI := Aside0.mk (fun W => ref_in (s.getD 0 0) 0 1000000 W)
    generalize s.getD 0 0 = x at *
    generalize inR x 0 1000000 = b at *
    clear hr
    go_enter Tryz.func15, Tryz.ntmps15
    go_wp2_with (first | (go_at_call 18; refine (HR.out).mono ?_; rintro e w1 ⟨rfl, hw⟩; rw [hw]; clear hw) | (go_at_call 33; refine (HI.out _).mono ?_; rintro e w3 ⟨rfl, hw⟩; rw [hw]; clear hw))
    go_ret
    exact ⟨rfl, 0, rfl⟩
  · rw [decide_eq_false hq, Bool.false_and]
    have hne : ((s.length : Int) == 1) = false := by simp; omega
    clear hr
    go_enter Tryz.func15, Tryz.ntmps15
    go_wp2_with (first | (go_at_call 18; refine (HR.out).mono ?_; rintro e w1 ⟨rfl, hw⟩; rw [hw]; clear hw))
    go_ret
    exact ⟨rfl, 0, rfl⟩
theorem val_16 (n : Int) (A : Option Addr) (c : Nat) (s : List Int) (w : World) (h : ruleR 16 n = true) (hr : Rd w A s) (hc : s.length ≤ c) (hl : s.length ≤ 24) : ValidAt 16 n A c s (bodyR 16 n s) w := by
  have HR := Aside0.mk (ref_rule 16 n w)
  rw [h] at HR
  unfold ValidAt
  clear h
  rw [show bodyR 16 n s = (decide (s.length = 1) && inR (s.getD 0 0) (-1000000) 1000000) from rfl]
  by_cases hq : s.length = 1
  · rw [decide_eq_true hq, Bool.true_and]
    obtain ⟨ad, rfl, hc1⟩ := hr.at 0 (by omega)
    rw [show ad.add 0 = ad from by simp [Addr.add]] at hc1
    have HI := Aside0.mk (fun W => ref_in (s.getD 0 0) (-1000000) 1000000 W)
    generalize s.getD 0 0 = x at *
    generalize inR x (-1000000) 1000000 = b at *
    clear hr
    go_enter Tryz.func15, Tryz.ntmps15
    go_wp2_with (first | (go_at_call 18; refine (HR.out).mono ?_; rintro e w1 ⟨rfl, hw⟩; rw [hw]; clear hw) | (go_at_call 33; refine (HI.out _).mono ?_; rintro e w3 ⟨rfl, hw⟩; rw [hw]; clear hw))
    go_ret
    exact ⟨rfl, 0, rfl⟩
  · rw [decide_eq_false hq, Bool.false_and]
    have hne : ((s.length : Int) == 1) = false := by simp; omega
    clear hr
    go_enter Tryz.func15, Tryz.ntmps15
    go_wp2_with (first | (go_at_call 18; refine (HR.out).mono ?_; rintro e w1 ⟨rfl, hw⟩; rw [hw]; clear hw))
    go_ret
    exact ⟨rfl, 0, rfl⟩
end Go.Proofs.YtiialjmpfeopjaaGreat.Sp
