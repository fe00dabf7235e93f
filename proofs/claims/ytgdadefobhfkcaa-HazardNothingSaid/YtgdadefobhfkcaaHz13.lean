/- What a nil manager does: plain lemmas; no condition. -/
import Derived.Test.YtgdadefobhfkcaaHz12
import Derived.Lib.SliceRun
namespace Go.Proofs.Ytgdadefobhfkcaa.Hz
open Go.RowKit Go.Proofs.YtgdadefobhfkcaaW.PrintWords Go.Proofs.YtgdadefobhfkcaaW.PrintLast Go.Proofs.YtgdadefobhfkcaaW.PrintMore
set_option linter.unusedVariables false
set_option linter.unusedSimpArgs false
set_option maxHeartbeats 8000000
set_option maxRecDepth 100000
theorem in_nil (w : World) (t : Int) : Calls Try.prog 28 #[.pointer none, .int .i64 t] w fun e w' => e = .returned (.tuple #[.slice none 0 0, .int .i64 1]) ∧ w' = w := by
  have hc := no_nil w t
  go_enter Try.func28, Try.ntmps28
  go_wp2_with (go_at_call 41; refine hc.mono ?_; rintro e w' ⟨rfl, rfl⟩)
  go_ret2
  exact ⟨rfl, rfl⟩
theorem out_nil (w : World) (t : Int) : Calls Try.prog 27 #[.pointer none, .int .i64 t] w fun e w' => e = .returned (.tuple #[.slice none 0 0, .int .i64 1]) ∧ w' = w := by
  have hc := no_nil w t
  go_enter Try.func27, Try.ntmps27
  go_wp2_with (go_at_call 41; refine hc.mono ?_; rintro e w' ⟨rfl, rfl⟩)
  go_ret2
  exact ⟨rfl, rfl⟩
theorem hold_nil (w : World) (t k a : Int) : Calls Try.prog 25 #[.pointer none, .int .i64 t, .int .i64 k, .int .i64 a] w fun e w' => e = .returned (.tuple #[.slice none 0 0, .int .i64 1]) ∧ w' = w := by
  have hc := no_nil w t
  go_enter Try.func25, Try.ntmps25
  go_wp2_with (go_at_call 41; refine hc.mono ?_; rintro e w' ⟨rfl, rfl⟩)
  go_ret2
  exact ⟨rfl, rfl⟩
theorem born_nil (w : World) (a : Int) : Calls Try.prog 29 #[.pointer none, .int .i64 a] w fun e w' => e = .returned (.int .i64 1) ∧ w' = w := by
  have hc := no_nil w 0
  go_enter Try.func29, Try.ntmps29
  go_wp2_with (go_at_call 41; refine hc.mono ?_; rintro e w' ⟨rfl, rfl⟩)
  go_ret
  exact ⟨rfl, rfl⟩
theorem retire_nil (w : World) (t a : Int) : Calls Try.prog 26 #[.pointer none, .int .i64 t, .int .i64 a] w fun e w' => e = .returned (.tuple #[.slice none 0 0, .int .i64 1]) ∧ Below w.heap.size w w' := by
  have hbe := (Below.refl w.heap.size w).alloc (Nat.le_refl _) (.cells #[.int .i64 a] 3 (0, 0))
  have hc := no_nil (w.alloc (.cells #[.int .i64 a] 3 (0, 0))) t
  go_enter Try.func26, Try.ntmps26
  go_wp2_with (go_at_call 41; refine hc.mono ?_; rintro e w' ⟨rfl, rfl⟩)
  go_ret2
  exact ⟨rfl, hbe⟩
theorem rest_nil (w : World) : Calls Try.prog 24 #[.pointer none] w fun e w' => e = .returned (.slice none 0 0) ∧ w' = w := by
  go_enter Try.func24, Try.ntmps24
  go_wp2
  go_ret
  exact ⟨rfl, rfl⟩
theorem copy_nil (w : World) : Calls Try.prog 23 #[.pointer none] w fun e w' => e = .returned (.pointer none) ∧ w' = w := by
  go_enter Try.func23, Try.ntmps23
  go_wp2
  go_ret
  exact ⟨rfl, rfl⟩
theorem copy_zero {B : Nat} {w : World} {g : Nat} {wv : Value} {m : HM} (hm : Man B w g none wv m) : Calls Try.prog 23 #[.pointer (some ⟨g, 0, none⟩)] w fun e w' => e = .returned (.pointer none) ∧ w' = w := by
  have h0 := hm.c0
  have hn : m.n = 0 := hm.none_ rfl
  rw [hn] at h0
  have hq := fun w => Go.Lib.run_eql_slice_nil (P := Try.prog) w 50 66 none 0 0 0 0 Try.underlying50
  clear hn hm
  go_enter Try.func23, Try.ntmps23
  go_wp2
  go_ret
  exact ⟨rfl, rfl⟩
def nilErr (d : Int) : Int := if 0 ≤ d ∧ d ≤ 4 then 1 else 0
theorem done_nil (w : World) (d t k a : Int) : Calls Try.prog 11 #[.pointer none, .agg #[.int .i64 d, .int .i64 t, .int .i64 k, .int .i64 a]] w fun e w' => e = .returned (.tuple #[.slice none 0 0, .int .i64 (nilErr d)]) ∧ Below w.heap.size w w' := by
  have hbe := (Below.refl w.heap.size w).alloc (Nat.le_refl _) (.cells #[.int .i64 d, .int .i64 t, .int .i64 k, .int .i64 a] 33 (0, 0))
  have HBE := Aside0.mk hbe
  by_cases h : 0 ≤ d ∧ d ≤ 5
  · have h6 : d = 0 ∨ d = 1 ∨ d = 2 ∨ d = 3 ∨ d = 4 ∨ d = 5 := by omega
    clear hbe h
    rcases h6 with rfl | rfl | rfl | rfl | rfl | rfl
    all_goals
      go_enter Try.func11, Try.ntmps11
      go_wp2_with (first
        | (go_at_call 28; refine (in_nil _ _).mono ?_; rintro e w' ⟨rfl, rfl⟩; have HB := HBE)
        | (go_at_call 27; refine (out_nil _ _).mono ?_; rintro e w' ⟨rfl, rfl⟩; have HB := HBE)
        | (go_at_call 25; refine (hold_nil _ _ _ _).mono ?_; rintro e w' ⟨rfl, rfl⟩; have HB := HBE)
        | (go_at_call 29; refine (born_nil _ _).mono ?_; rintro e w' ⟨rfl, rfl⟩; have HB := HBE)
        | (go_at_call 26; refine (retire_nil _ _ _).mono ?_; rintro e w' ⟨rfl, hb⟩; have HB := Aside0.mk (btrans HBE.out hb); clear hb)
        | (go_at_call 24; refine (rest_nil _).mono ?_; rintro e w' ⟨rfl, rfl⟩; have HB := HBE))
      go_ret2
      exact ⟨rfl, HB.out⟩
  · have e : nilErr d = 0 := by unfold nilErr; rw [if_neg (by omega)]
    rw [e]
    have f0 : (d == 0) = false := by simp; omega
    have f1 : (d == 1) = false := by simp; omega
    have f2 : (d == 2) = false := by simp; omega
    have f3 : (d == 3) = false := by simp; omega
    have f4 : (d == 4) = false := by simp; omega
    have f5 : (d == 5) = false := by simp; omega
    clear h hbe e
    go_enter Try.func11, Try.ntmps11
    go_wp2
    go_ret2
    exact ⟨rfl, HBE.out⟩
end Go.Proofs.Ytgdadefobhfkcaa.Hz
