/- Orders compared, two operations compared, walked: plain lemmas; no condition. -/
import Derived.Test.YtgfbgbclpeihdaaLiA
import Derived.Test.YtgfbgbclpeihdaaCore
namespace Go.Proofs.Ytgfbgbclpeihdaa.Li
open Go.RowKit Go.Proofs.YtgfbgbclpeihdaaW.PrintWords Go.Proofs.YtgfbgbclpeihdaaW.PrintLast Go.Proofs.YtgfbgbclpeihdaaW.PrintMore
set_option linter.unusedVariables false
set_option linter.unusedSimpArgs false
set_option maxHeartbeats 8000000
set_option maxRecDepth 100000
def bitsL (n : Int) : Int := if n = 4 then 7 else n
def covL (a b : Int) : Bool := decide (a = b) || decide (a = 4) || decide (b = 0) || (decide (a = 3) && (decide (b = 1) || decide (b = 2)))
def geL (a b : Int) : Bool := ordL a && ordL b && covL a b
theorem bits_calls (n : Int) (w : World) : Calls Try.prog 89 #[.int .i64 n] w fun e w' => e = .returned (.int .i64 (bitsL n)) ∧ w' = w := by
  unfold bitsL
  by_cases h : n = 4
  · subst h
    go_enter Try.func89, Try.ntmps89
    go_wp2
    go_ret
    exact ⟨rfl, rfl⟩
  · rw [if_neg h]
    have hb : (n == (4 : Int)) = false := by simp; exact h
    go_enter Try.func89, Try.ntmps89
    go_wp2
    go_ret
    exact ⟨rfl, rfl⟩

theorem cov_00 (w : World) : Calls Try.prog 73 #[.int .i64 0, .int .i64 0] w fun e w' => e = .returned (.bool (covL 0 0)) ∧ w' = w := by
  rw [show covL 0 0 = true from by decide]
  go_enter Try.func73, Try.ntmps73
  go_wp2_with (first | (go_at_call 89; refine (bits_calls 0 _).mono ?_; rintro e w2 ⟨rfl, hw⟩; rw [hw, show bitsL 0 = 0 from by decide]; clear hw) | (go_at_call 89; refine (bits_calls 0 _).mono ?_; rintro e w2 ⟨rfl, hw⟩; rw [hw, show bitsL 0 = 0 from by decide]; clear hw))
  go_ret
  exact ⟨rfl, rfl⟩

theorem cov_01 (w : World) : Calls Try.prog 73 #[.int .i64 0, .int .i64 1] w fun e w' => e = .returned (.bool (covL 0 1)) ∧ w' = w := by
  rw [show covL 0 1 = false from by decide]
  go_enter Try.func73, Try.ntmps73
  go_wp2_with (first | (go_at_call 89; refine (bits_calls 0 _).mono ?_; rintro e w2 ⟨rfl, hw⟩; rw [hw, show bitsL 0 = 0 from by decide]; clear hw) | (go_at_call 89; refine (bits_calls 1 _).mono ?_; rintro e w2 ⟨rfl, hw⟩; rw [hw, show bitsL 1 = 1 from by decide]; clear hw))
  go_ret
  exact ⟨rfl, rfl⟩

theorem cov_02 (w : World) : Calls Try.prog 73 #[.int .i64 0, .int .i64 2] w fun e w' => e = .returned (.bool (covL 0 2)) ∧ w' = w := by
  rw [show covL 0 2 = false from by decide]
  go_enter Try.func73, Try.ntmps73
  go_wp2_with (first | (go_at_call 89; refine (bits_calls 0 _).mono ?_; rintro e w2 ⟨rfl, hw⟩; rw [hw, show bitsL 0 = 0 from by decide]; clear hw) | (go_at_call 89; refine (bits_calls 2 _).mono ?_; rintro e w2 ⟨rfl, hw⟩; rw [hw, show bitsL 2 = 2 from by decide]; clear hw))
  go_ret
  exact ⟨rfl, rfl⟩

theorem cov_03 (w : World) : Calls Try.prog 73 #[.int .i64 0, .int .i64 3] w fun e w' => e = .returned (.bool (covL 0 3)) ∧ w' = w := by
  rw [show covL 0 3 = false from by decide]
  go_enter Try.func73, Try.ntmps73
  go_wp2_with (first | (go_at_call 89; refine (bits_calls 0 _).mono ?_; rintro e w2 ⟨rfl, hw⟩; rw [hw, show bitsL 0 = 0 from by decide]; clear hw) | (go_at_call 89; refine (bits_calls 3 _).mono ?_; rintro e w2 ⟨rfl, hw⟩; rw [hw, show bitsL 3 = 3 from by decide]; clear hw))
  go_ret
  exact ⟨rfl, rfl⟩

theorem cov_04 (w : World) : Calls Try.prog 73 #[.int .i64 0, .int .i64 4] w fun e w' => e = .returned (.bool (covL 0 4)) ∧ w' = w := by
  rw [show covL 0 4 = false from by decide]
  go_enter Try.func73, Try.ntmps73
  go_wp2_with (first | (go_at_call 89; refine (bits_calls 0 _).mono ?_; rintro e w2 ⟨rfl, hw⟩; rw [hw, show bitsL 0 = 0 from by decide]; clear hw) | (go_at_call 89; refine (bits_calls 4 _).mono ?_; rintro e w2 ⟨rfl, hw⟩; rw [hw, show bitsL 4 = 7 from by decide]; clear hw))
  go_ret
  exact ⟨rfl, rfl⟩

theorem cov_10 (w : World) : Calls Try.prog 73 #[.int .i64 1, .int .i64 0] w fun e w' => e = .returned (.bool (covL 1 0)) ∧ w' = w := by
  rw [show covL 1 0 = true from by decide]
  go_enter Try.func73, Try.ntmps73
  go_wp2_with (first | (go_at_call 89; refine (bits_calls 1 _).mono ?_; rintro e w2 ⟨rfl, hw⟩; rw [hw, show bitsL 1 = 1 from by decide]; clear hw) | (go_at_call 89; refine (bits_calls 0 _).mono ?_; rintro e w2 ⟨rfl, hw⟩; rw [hw, show bitsL 0 = 0 from by decide]; clear hw))
  go_ret
  exact ⟨rfl, rfl⟩

theorem cov_11 (w : World) : Calls Try.prog 73 #[.int .i64 1, .int .i64 1] w fun e w' => e = .returned (.bool (covL 1 1)) ∧ w' = w := by
  rw [show covL 1 1 = true from by decide]
  go_enter Try.func73, Try.ntmps73
  go_wp2_with (first | (go_at_call 89; refine (bits_calls 1 _).mono ?_; rintro e w2 ⟨rfl, hw⟩; rw [hw, show bitsL 1 = 1 from by decide]; clear hw) | (go_at_call 89; refine (bits_calls 1 _).mono ?_; rintro e w2 ⟨rfl, hw⟩; rw [hw, show bitsL 1 = 1 from by decide]; clear hw))
  go_ret
  exact ⟨rfl, rfl⟩

theorem cov_12 (w : World) : Calls Try.prog 73 #[.int .i64 1, .int .i64 2] w fun e w' => e = .returned (.bool (covL 1 2)) ∧ w' = w := by
  rw [show covL 1 2 = false from by decide]
  go_enter Try.func73, Try.ntmps73
  go_wp2_with (first | (go_at_call 89; refine (bits_calls 1 _).mono ?_; rintro e w2 ⟨rfl, hw⟩; rw [hw, show bitsL 1 = 1 from by decide]; clear hw) | (go_at_call 89; refine (bits_calls 2 _).mono ?_; rintro e w2 ⟨rfl, hw⟩; rw [hw, show bitsL 2 = 2 from by decide]; clear hw))
  go_ret
  exact ⟨rfl, rfl⟩

theorem cov_13 (w : World) : Calls Try.prog 73 #[.int .i64 1, .int .i64 3] w fun e w' => e = .returned (.bool (covL 1 3)) ∧ w' = w := by
  rw [show covL 1 3 = false from by decide]
  go_enter Try.func73, Try.ntmps73
  go_wp2_with (first | (go_at_call 89; refine (bits_calls 1 _).mono ?_; rintro e w2 ⟨rfl, hw⟩; rw [hw, show bitsL 1 = 1 from by decide]; clear hw) | (go_at_call 89; refine (bits_calls 3 _).mono ?_; rintro e w2 ⟨rfl, hw⟩; rw [hw, show bitsL 3 = 3 from by decide]; clear hw))
  go_ret
  exact ⟨rfl, rfl⟩

theorem cov_14 (w : World) : Calls Try.prog 73 #[.int .i64 1, .int .i64 4] w fun e w' => e = .returned (.bool (covL 1 4)) ∧ w' = w := by
  rw [show covL 1 4 = false from by decide]
  go_enter Try.func73, Try.ntmps73
  go_wp2_with (first | (go_at_call 89; refine (bits_calls 1 _).mono ?_; rintro e w2 ⟨rfl, hw⟩; rw [hw, show bitsL 1 = 1 from by decide]; clear hw) | (go_at_call 89; refine (bits_calls 4 _).mono ?_; rintro e w2 ⟨rfl, hw⟩; rw [hw, show bitsL 4 = 7 from by decide]; clear hw))
  go_ret
  exact ⟨rfl, rfl⟩

theorem cov_20 (w : World) : Calls Try.prog 73 #[.int .i64 2, .int .i64 0] w fun e w' => e = .returned (.bool (covL 2 0)) ∧ w' = w := by
  rw [show covL 2 0 = true from by decide]
  go_enter Try.func73, Try.ntmps73
  go_wp2_with (first | (go_at_call 89; refine (bits_calls 2 _).mono ?_; rintro e w2 ⟨rfl, hw⟩; rw [hw, show bitsL 2 = 2 from by decide]; clear hw) | (go_at_call 89; refine (bits_calls 0 _).mono ?_; rintro e w2 ⟨rfl, hw⟩; rw [hw, show bitsL 0 = 0 from by decide]; clear hw))
  go_ret
  exact ⟨rfl, rfl⟩

theorem cov_21 (w : World) : Calls Try.prog 73 #[.int .i64 2, .int .i64 1] w fun e w' => e = .returned (.bool (covL 2 1)) ∧ w' = w := by
  rw [show covL 2 1 = false from by decide]
  go_enter Try.func73, Try.ntmps73
  go_wp2_with (first | (go_at_call 89; refine (bits_calls 2 _).mono ?_; rintro e w2 ⟨rfl, hw⟩; rw [hw, show bitsL 2 = 2 from by decide]; clear hw) | (go_at_call 89; refine (bits_calls 1 _).mono ?_; rintro e w2 ⟨rfl, hw⟩; rw [hw, show bitsL 1 = 1 from by decide]; clear hw))
  go_ret
  exact ⟨rfl, rfl⟩

theorem cov_22 (w : World) : Calls Try.prog 73 #[.int .i64 2, .int .i64 2] w fun e w' => e = .returned (.bool (covL 2 2)) ∧ w' = w := by
  rw [show covL 2 2 = true from by decide]
  go_enter Try.func73, Try.ntmps73
  go_wp2_with (first | (go_at_call 89; refine (bits_calls 2 _).mono ?_; rintro e w2 ⟨rfl, hw⟩; rw [hw, show bitsL 2 = 2 from by decide]; clear hw) | (go_at_call 89; refine (bits_calls 2 _).mono ?_; rintro e w2 ⟨rfl, hw⟩; rw [hw, show bitsL 2 = 2 from by decide]; clear hw))
  go_ret
  exact ⟨rfl, rfl⟩

theorem cov_23 (w : World) : Calls Try.prog 73 #[.int .i64 2, .int .i64 3] w fun e w' => e = .returned (.bool (covL 2 3)) ∧ w' = w := by
  rw [show covL 2 3 = false from by decide]
  go_enter Try.func73, Try.ntmps73
  go_wp2_with (first | (go_at_call 89; refine (bits_calls 2 _).mono ?_; rintro e w2 ⟨rfl, hw⟩; rw [hw, show bitsL 2 = 2 from by decide]; clear hw) | (go_at_call 89; refine (bits_calls 3 _).mono ?_; rintro e w2 ⟨rfl, hw⟩; rw [hw, show bitsL 3 = 3 from by decide]; clear hw))
  go_ret
  exact ⟨rfl, rfl⟩

theorem cov_24 (w : World) : Calls Try.prog 73 #[.int .i64 2, .int .i64 4] w fun e w' => e = .returned (.bool (covL 2 4)) ∧ w' = w := by
  rw [show covL 2 4 = false from by decide]
  go_enter Try.func73, Try.ntmps73
  go_wp2_with (first | (go_at_call 89; refine (bits_calls 2 _).mono ?_; rintro e w2 ⟨rfl, hw⟩; rw [hw, show bitsL 2 = 2 from by decide]; clear hw) | (go_at_call 89; refine (bits_calls 4 _).mono ?_; rintro e w2 ⟨rfl, hw⟩; rw [hw, show bitsL 4 = 7 from by decide]; clear hw))
  go_ret
  exact ⟨rfl, rfl⟩

theorem cov_30 (w : World) : Calls Try.prog 73 #[.int .i64 3, .int .i64 0] w fun e w' => e = .returned (.bool (covL 3 0)) ∧ w' = w := by
  rw [show covL 3 0 = true from by decide]
  go_enter Try.func73, Try.ntmps73
  go_wp2_with (first | (go_at_call 89; refine (bits_calls 3 _).mono ?_; rintro e w2 ⟨rfl, hw⟩; rw [hw, show bitsL 3 = 3 from by decide]; clear hw) | (go_at_call 89; refine (bits_calls 0 _).mono ?_; rintro e w2 ⟨rfl, hw⟩; rw [hw, show bitsL 0 = 0 from by decide]; clear hw))
  go_ret
  exact ⟨rfl, rfl⟩

theorem cov_31 (w : World) : Calls Try.prog 73 #[.int .i64 3, .int .i64 1] w fun e w' => e = .returned (.bool (covL 3 1)) ∧ w' = w := by
  rw [show covL 3 1 = true from by decide]
  go_enter Try.func73, Try.ntmps73
  go_wp2_with (first | (go_at_call 89; refine (bits_calls 3 _).mono ?_; rintro e w2 ⟨rfl, hw⟩; rw [hw, show bitsL 3 = 3 from by decide]; clear hw) | (go_at_call 89; refine (bits_calls 1 _).mono ?_; rintro e w2 ⟨rfl, hw⟩; rw [hw, show bitsL 1 = 1 from by decide]; clear hw))
  go_ret
  exact ⟨rfl, rfl⟩

theorem cov_32 (w : World) : Calls Try.prog 73 #[.int .i64 3, .int .i64 2] w fun e w' => e = .returned (.bool (covL 3 2)) ∧ w' = w := by
  rw [show covL 3 2 = true from by decide]
  go_enter Try.func73, Try.ntmps73
  go_wp2_with (first | (go_at_call 89; refine (bits_calls 3 _).mono ?_; rintro e w2 ⟨rfl, hw⟩; rw [hw, show bitsL 3 = 3 from by decide]; clear hw) | (go_at_call 89; refine (bits_calls 2 _).mono ?_; rintro e w2 ⟨rfl, hw⟩; rw [hw, show bitsL 2 = 2 from by decide]; clear hw))
  go_ret
  exact ⟨rfl, rfl⟩

theorem cov_33 (w : World) : Calls Try.prog 73 #[.int .i64 3, .int .i64 3] w fun e w' => e = .returned (.bool (covL 3 3)) ∧ w' = w := by
  rw [show covL 3 3 = true from by decide]
  go_enter Try.func73, Try.ntmps73
  go_wp2_with (first | (go_at_call 89; refine (bits_calls 3 _).mono ?_; rintro e w2 ⟨rfl, hw⟩; rw [hw, show bitsL 3 = 3 from by decide]; clear hw) | (go_at_call 89; refine (bits_calls 3 _).mono ?_; rintro e w2 ⟨rfl, hw⟩; rw [hw, show bitsL 3 = 3 from by decide]; clear hw))
  go_ret
  exact ⟨rfl, rfl⟩

theorem cov_34 (w : World) : Calls Try.prog 73 #[.int .i64 3, .int .i64 4] w fun e w' => e = .returned (.bool (covL 3 4)) ∧ w' = w := by
  rw [show covL 3 4 = false from by decide]
  go_enter Try.func73, Try.ntmps73
  go_wp2_with (first | (go_at_call 89; refine (bits_calls 3 _).mono ?_; rintro e w2 ⟨rfl, hw⟩; rw [hw, show bitsL 3 = 3 from by decide]; clear hw) | (go_at_call 89; refine (bits_calls 4 _).mono ?_; rintro e w2 ⟨rfl, hw⟩; rw [hw, show bitsL 4 = 7 from by decide]; clear hw))
  go_ret
  exact ⟨rfl, rfl⟩

theorem cov_40 (w : World) : Calls Try.prog 73 #[.int .i64 4, .int .i64 0] w fun e w' => e = .returned (.bool (covL 4 0)) ∧ w' = w := by
  rw [show covL 4 0 = true from by decide]
  go_enter Try.func73, Try.ntmps73
  go_wp2_with (first | (go_at_call 89; refine (bits_calls 4 _).mono ?_; rintro e w2 ⟨rfl, hw⟩; rw [hw, show bitsL 4 = 7 from by decide]; clear hw) | (go_at_call 89; refine (bits_calls 0 _).mono ?_; rintro e w2 ⟨rfl, hw⟩; rw [hw, show bitsL 0 = 0 from by decide]; clear hw))
  go_ret
  exact ⟨rfl, rfl⟩

theorem cov_41 (w : World) : Calls Try.prog 73 #[.int .i64 4, .int .i64 1] w fun e w' => e = .returned (.bool (covL 4 1)) ∧ w' = w := by
  rw [show covL 4 1 = true from by decide]
  go_enter Try.func73, Try.ntmps73
  go_wp2_with (first | (go_at_call 89; refine (bits_calls 4 _).mono ?_; rintro e w2 ⟨rfl, hw⟩; rw [hw, show bitsL 4 = 7 from by decide]; clear hw) | (go_at_call 89; refine (bits_calls 1 _).mono ?_; rintro e w2 ⟨rfl, hw⟩; rw [hw, show bitsL 1 = 1 from by decide]; clear hw))
  go_ret
  exact ⟨rfl, rfl⟩

theorem cov_42 (w : World) : Calls Try.prog 73 #[.int .i64 4, .int .i64 2] w fun e w' => e = .returned (.bool (covL 4 2)) ∧ w' = w := by
  rw [show covL 4 2 = true from by decide]
  go_enter Try.func73, Try.ntmps73
  go_wp2_with (first | (go_at_call 89; refine (bits_calls 4 _).mono ?_; rintro e w2 ⟨rfl, hw⟩; rw [hw, show bitsL 4 = 7 from by decide]; clear hw) | (go_at_call 89; refine (bits_calls 2 _).mono ?_; rintro e w2 ⟨rfl, hw⟩; rw [hw, show bitsL 2 = 2 from by decide]; clear hw))
  go_ret
  exact ⟨rfl, rfl⟩

theorem cov_43 (w : World) : Calls Try.prog 73 #[.int .i64 4, .int .i64 3] w fun e w' => e = .returned (.bool (covL 4 3)) ∧ w' = w := by
  rw [show covL 4 3 = true from by decide]
  go_enter Try.func73, Try.ntmps73
  go_wp2_with (first | (go_at_call 89; refine (bits_calls 4 _).mono ?_; rintro e w2 ⟨rfl, hw⟩; rw [hw, show bitsL 4 = 7 from by decide]; clear hw) | (go_at_call 89; refine (bits_calls 3 _).mono ?_; rintro e w2 ⟨rfl, hw⟩; rw [hw, show bitsL 3 = 3 from by decide]; clear hw))
  go_ret
  exact ⟨rfl, rfl⟩

theorem cov_44 (w : World) : Calls Try.prog 73 #[.int .i64 4, .int .i64 4] w fun e w' => e = .returned (.bool (covL 4 4)) ∧ w' = w := by
  rw [show covL 4 4 = true from by decide]
  go_enter Try.func73, Try.ntmps73
  go_wp2_with (first | (go_at_call 89; refine (bits_calls 4 _).mono ?_; rintro e w2 ⟨rfl, hw⟩; rw [hw, show bitsL 4 = 7 from by decide]; clear hw) | (go_at_call 89; refine (bits_calls 4 _).mono ?_; rintro e w2 ⟨rfl, hw⟩; rw [hw, show bitsL 4 = 7 from by decide]; clear hw))
  go_ret
  exact ⟨rfl, rfl⟩

theorem covers_calls (a b : Int) (w : World) (ha : ordL a = true) (hb : ordL b = true) : Calls Try.prog 73 #[.int .i64 a, .int .i64 b] w fun e w' => e = .returned (.bool (covL a b)) ∧ w' = w := by
  unfold ordL at ha hb
  simp only [Bool.and_eq_true, decide_eq_true_eq] at ha hb
  rcases (show a = 0 ∨ a = 1 ∨ a = 2 ∨ a = 3 ∨ a = 4 by omega) with rfl | rfl | rfl | rfl | rfl

  · rcases (show b = 0 ∨ b = 1 ∨ b = 2 ∨ b = 3 ∨ b = 4 by omega) with rfl | rfl | rfl | rfl | rfl
    · exact cov_00 w
    · exact cov_01 w
    · exact cov_02 w
    · exact cov_03 w
    · exact cov_04 w

  · rcases (show b = 0 ∨ b = 1 ∨ b = 2 ∨ b = 3 ∨ b = 4 by omega) with rfl | rfl | rfl | rfl | rfl
    · exact cov_10 w
    · exact cov_11 w
    · exact cov_12 w
    · exact cov_13 w
    · exact cov_14 w

  · rcases (show b = 0 ∨ b = 1 ∨ b = 2 ∨ b = 3 ∨ b = 4 by omega) with rfl | rfl | rfl | rfl | rfl
    · exact cov_20 w
    · exact cov_21 w
    · exact cov_22 w
    · exact cov_23 w
    · exact cov_24 w

  · rcases (show b = 0 ∨ b = 1 ∨ b = 2 ∨ b = 3 ∨ b = 4 by omega) with rfl | rfl | rfl | rfl | rfl
    · exact cov_30 w
    · exact cov_31 w
    · exact cov_32 w
    · exact cov_33 w
    · exact cov_34 w

  · rcases (show b = 0 ∨ b = 1 ∨ b = 2 ∨ b = 3 ∨ b = 4 by omega) with rfl | rfl | rfl | rfl | rfl
    · exact cov_40 w
    · exact cov_41 w
    · exact cov_42 w
    · exact cov_43 w
    · exact cov_44 w

theorem orderAtLeast_calls (a b : Int) (w : World) : Calls Try.prog 54 #[.int .i64 a, .int .i64 b] w fun e w' => e = .returned (.tuple #[.bool (geL a b), .int .i64 (if ordL a && ordL b then 0 else 1)]) ∧ w' = w := by
  have HA := Aside0.mk (isOrder_calls a w)
  have HB := Aside0.mk (isOrder_calls b w)
  unfold geL
  have tokA := True.intro
  cases ha : ordL a with
  | false =>
    rw [ha] at HA
    clear ha
    go_enter Try.func54, Try.ntmps54
    go_wp2_with (first | (have _t := tokA; go_at_call 62; refine HA.out.mono ?_; rintro e w2 ⟨rfl, hw⟩; rw [hw]; clear hw tokA _t) | (go_at_call 62; refine HB.out.mono ?_; rintro e w2 ⟨rfl, hw⟩; rw [hw]; clear hw) | (go_at_call 73; refine HCV.out.mono ?_; rintro e w2 ⟨rfl, hw⟩; rw [hw]; clear hw))
    go_ret2
    exact ⟨rfl, rfl⟩
  | true =>
    rw [ha] at HA
    cases hb : ordL b with
    | false =>
      rw [hb] at HB
      clear ha hb
      go_enter Try.func54, Try.ntmps54
      go_wp2_with (first | (have _t := tokA; go_at_call 62; refine HA.out.mono ?_; rintro e w2 ⟨rfl, hw⟩; rw [hw]; clear hw tokA _t) | (go_at_call 62; refine HB.out.mono ?_; rintro e w2 ⟨rfl, hw⟩; rw [hw]; clear hw) | (go_at_call 73; refine HCV.out.mono ?_; rintro e w2 ⟨rfl, hw⟩; rw [hw]; clear hw))
      go_ret2
      exact ⟨rfl, rfl⟩
    | true =>
      have HCV := Aside0.mk (covers_calls a b w ha hb)
      rw [hb] at HB
      clear ha hb
      go_enter Try.func54, Try.ntmps54
      go_wp2_with (first | (have _t := tokA; go_at_call 62; refine HA.out.mono ?_; rintro e w2 ⟨rfl, hw⟩; rw [hw]; clear hw tokA _t) | (go_at_call 62; refine HB.out.mono ?_; rintro e w2 ⟨rfl, hw⟩; rw [hw]; clear hw) | (go_at_call 73; refine HCV.out.mono ?_; rintro e w2 ⟨rfl, hw⟩; rw [hw]; clear hw))
      go_ret2
      exact ⟨by simp, rfl⟩
theorem strongFence_calls (w : World) : Calls Try.prog 49 #[] w fun e w' => e = .returned (.agg #[.int .i64 5, .int .i64 0, .int .i64 0, .int .i64 0, .int .i64 4]) ∧ Below w.heap.size w w' := by
  go_enter Try.func49, Try.ntmps49
  go_wp2
  refine bodyPost_ret (v := .agg #[.int .i64 5, .int .i64 0, .int .i64 0, .int .i64 0, .int .i64 4]) (by simp [results, Try.results49, go_sem]) rfl ⟨rfl, ?_⟩
  exact al1 w _
def eqO (x y : LOp) : Bool := decide (x.k = y.k) && (decide (x.l = y.l) && (decide (x.v = y.v) && (decide (x.w = y.w) && decide (x.o = y.o))))
def geO (x y : LOp) : Bool := geL x.o y.o && (decide (x.k = y.k) && (decide (x.l = y.l) && (decide (x.v = y.v) && decide (x.w = y.w))))

theorem below2 (w : World) (o0 o1 : Obj) : Below w.heap.size w ((w.alloc o0).alloc o1) := ((Below.refl w.heap.size w).alloc (Nat.le_refl _) o0).alloc (by show _ ≤ (w.heap.push _).size; rw [Array.size_push]; omega) o1
theorem opGe_calls (x y : LOp) (w : World) : Calls Try.prog 53 #[.agg #[.int .i64 x.k, .int .i64 x.l, .int .i64 x.v, .int .i64 x.w, .int .i64 x.o], .agg #[.int .i64 y.k, .int .i64 y.l, .int .i64 y.v, .int .i64 y.w, .int .i64 y.o]] w fun e w' => e = .returned (.bool (geO x y)) ∧ Below w.heap.size w w' := by
  unfold geO
  obtain ⟨k, l, v, u, o⟩ := x
  obtain ⟨k', l', v', u', o'⟩ := y
  simp only
  have HAT := Aside0.mk (fun w => orderAtLeast_calls o o' w)
  generalize geL o o' = g at *
  generalize (if (ordL o && ordL o') = true then (0 : Int) else 1) = er at *
  go_enter Try.func53, Try.ntmps53
  go_wp2_with (first | (go_at_call 54; refine (HAT.out _).mono ?_; rintro e w2 ⟨rfl, hw⟩; rw [hw]; clear hw))
  all_goals (
    go_ret
    exact ⟨by simp_all, below2 w _ _⟩)

end Go.Proofs.Ytgfbgbclpeihdaa.Li
