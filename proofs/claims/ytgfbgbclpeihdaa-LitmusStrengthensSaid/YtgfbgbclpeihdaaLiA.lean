/- Litmus: small functions of the program, walked: plain lemmas; no condition. -/
import Derived.Test.YtgfbgbclpeihdaaProg
import Derived.Test.YtgfbgbclpeihdaaLiP
import Derived.Test.YtgfbgbclpeihdaaCore
import Derived.Shelf.Abstract
import Derived.Lib.Builder
import Derived.KernelRfl
import Derived.BigQuiet
import Derived.Deep.QuietTactic
import Derived.Deep.RegionHeld3
import Derived.Deep.LoopGhost
import Derived.Laws.EntriesVeiled
namespace Go.Proofs.Ytgfbgbclpeihdaa.Li
open Go.RowKit Go.Proofs.YtgfbgbclpeihdaaW.PrintWords Go.Proofs.YtgfbgbclpeihdaaW.PrintLast Go.Proofs.YtgfbgbclpeihdaaW.PrintMore
set_option linter.unusedVariables false
set_option linter.unusedSimpArgs false
set_option maxHeartbeats 8000000
set_option maxRecDepth 100000
theorem box_facts (w : World) (x : LOp) : (w.alloc (.cells #[.int .i64 x.k, .int .i64 x.l, .int .i64 x.v, .int .i64 x.w, .int .i64 x.o] 44 (0, 0))).cell? ⟨w.heap.size, 0, none⟩ = some (.int .i64 x.k) ∧ (w.alloc (.cells #[.int .i64 x.k, .int .i64 x.l, .int .i64 x.v, .int .i64 x.w, .int .i64 x.o] 44 (0, 0))).cell? ⟨w.heap.size, 1, none⟩ = some (.int .i64 x.l) ∧ (w.alloc (.cells #[.int .i64 x.k, .int .i64 x.l, .int .i64 x.v, .int .i64 x.w, .int .i64 x.o] 44 (0, 0))).cell? ⟨w.heap.size, 2, none⟩ = some (.int .i64 x.v) ∧ (w.alloc (.cells #[.int .i64 x.k, .int .i64 x.l, .int .i64 x.v, .int .i64 x.w, .int .i64 x.o] 44 (0, 0))).cell? ⟨w.heap.size, 3, none⟩ = some (.int .i64 x.w) ∧ (w.alloc (.cells #[.int .i64 x.k, .int .i64 x.l, .int .i64 x.v, .int .i64 x.w, .int .i64 x.o] 44 (0, 0))).cell? ⟨w.heap.size, 4, none⟩ = some (.int .i64 x.o) := by
  have n := heap_alloc_new w (.cells #[.int .i64 x.k, .int .i64 x.l, .int .i64 x.v, .int .i64 x.w, .int .i64 x.o] 44 (0, 0))
  have c := fun i => Go.Lib.cell_of_heap n i
  exact ⟨(c 0).trans rfl, (c 1).trans rfl, (c 2).trans rfl, (c 3).trans rfl, (c 4).trans rfl⟩
theorem bdrew {w w1 : World} (h : Below w.heap.size w w1) (q : Nat) : Below w.heap.size w (w1.drewN q) := pw_below_drewN h q
theorem al1 (w : World) (o : Obj) : Below w.heap.size w (w.alloc o) := (Below.refl w.heap.size w).alloc (Nat.le_refl _) o
theorem btrans {w w1 w2 : World} (h : Below w.heap.size w w1) (k : Below w1.heap.size w1 w2) : Below w.heap.size w w2 := below_step h k
theorem access_calls (x : LOp) (w : World) : Calls Try.prog 38 #[.agg #[.int .i64 x.k, .int .i64 x.l, .int .i64 x.v, .int .i64 x.w, .int .i64 x.o]] w fun e w' => e = .returned (.bool (accL x)) ∧ Below w.heap.size w w' := by
  obtain ⟨k0, k1, k2, k3, k4⟩ := box_facts w x
  have B := Aside0.mk (al1 w (.cells #[.int .i64 x.k, .int .i64 x.l, .int .i64 x.v, .int .i64 x.w, .int .i64 x.o] 44 (0, 0)))
  unfold accL
  obtain ⟨k, l, v, u, o⟩ := x
  by_cases h0 : 0 ≤ k
  · by_cases h4 : k ≤ 4
    · go_enter Try.func38, Try.ntmps38
      go_wp2
      go_ret
      exact ⟨by simp [h0, h4], B.out⟩
    · go_enter Try.func38, Try.ntmps38
      go_wp2
      go_ret
      exact ⟨by simp [h0, h4], B.out⟩
  · go_enter Try.func38, Try.ntmps38
    go_wp2
    go_ret
    exact ⟨by simp; omega, B.out⟩
theorem reads_calls (x : LOp) (w : World) : Calls Try.prog 30 #[.agg #[.int .i64 x.k, .int .i64 x.l, .int .i64 x.v, .int .i64 x.w, .int .i64 x.o]] w fun e w' => e = .returned (.bool (rdL x)) ∧ Below w.heap.size w w' := by
  obtain ⟨k0, k1, k2, k3, k4⟩ := box_facts w x
  have B := Aside0.mk (al1 w (.cells #[.int .i64 x.k, .int .i64 x.l, .int .i64 x.v, .int .i64 x.w, .int .i64 x.o] 44 (0, 0)))
  have HC := Aside0.mk (access_calls x (w.alloc (.cells #[.int .i64 x.k, .int .i64 x.l, .int .i64 x.v, .int .i64 x.w, .int .i64 x.o] 44 (0, 0))))
  have HB := Aside0.mk (show ∀ w', Below (w.alloc (.cells #[.int .i64 x.k, .int .i64 x.l, .int .i64 x.v, .int .i64 x.w, .int .i64 x.o] 44 (0, 0))).heap.size (w.alloc (.cells #[.int .i64 x.k, .int .i64 x.l, .int .i64 x.v, .int .i64 x.w, .int .i64 x.o] 44 (0, 0))) w' → w'.cell? ⟨w.heap.size, 0, none⟩ = some (.int .i64 x.k) from fun w' hb => (hb.cell (World.block_lt_of_cell? _ _ k0)).trans k0)
  unfold rdL
  obtain ⟨a, ha⟩ : ∃ a, a = accL x := ⟨_, rfl⟩
  rw [← ha] at HC ⊢
  clear ha
  obtain ⟨k, l, v, u, o⟩ := x
  cases a with
  | false =>
    go_enter Try.func30, Try.ntmps30
    go_wp2_with (first | (go_at_call 38; refine HC.out.mono ?_; rintro e w2 ⟨rfl, hb⟩; have k0 := HB.out w2 hb; have B2 := Aside0.mk (btrans B.out hb); clear hb))
    go_ret
    exact ⟨rfl, B2.out⟩
  | true =>
    by_cases h1 : k = 1
    · subst h1
      go_enter Try.func30, Try.ntmps30
      go_wp2_with (first | (go_at_call 38; refine HC.out.mono ?_; rintro e w2 ⟨rfl, hb⟩; have k0 := HB.out w2 hb; have B2 := Aside0.mk (btrans B.out hb); clear hb))
      go_ret
      exact ⟨rfl, B2.out⟩
    · have h1b : (k != (1 : Int)) = true := by simp; exact h1
      go_enter Try.func30, Try.ntmps30
      go_wp2_with (first | (go_at_call 38; refine HC.out.mono ?_; rintro e w2 ⟨rfl, hb⟩; have k0 := HB.out w2 hb; have B2 := Aside0.mk (btrans B.out hb); clear hb))
      go_ret
      exact ⟨by simp [h1], B2.out⟩
def digL (n : Int) : Bool := decide (0 ≤ n) && decide (n ≤ 9)
def ordL (o : Int) : Bool := decide (0 ≤ o) && decide (o < 5)
theorem digit_calls (n : Int) (w : World) : Calls Try.prog 64 #[.int .i64 n] w fun e w' => e = .returned (.bool (digL n)) ∧ w' = w := by
  by_cases h0 : 0 ≤ n
  · by_cases h1 : n ≤ 9
    · go_enter Try.func64, Try.ntmps64
      go_wp2
      go_ret
      exact ⟨by simp [digL, h0, h1], rfl⟩
    · go_enter Try.func64, Try.ntmps64
      go_wp2
      go_ret
      exact ⟨by simp [digL, h0, h1], rfl⟩
  · go_enter Try.func64, Try.ntmps64
    go_wp2
    go_ret
    exact ⟨by simp [digL]; omega, rfl⟩
theorem isOrder_calls (n : Int) (w : World) : Calls Try.prog 62 #[.int .i64 n] w fun e w' => e = .returned (.bool (ordL n)) ∧ w' = w := by
  by_cases h0 : 0 ≤ n
  · by_cases h1 : n < 5
    · go_enter Try.func62, Try.ntmps62
      go_wp2
      go_ret
      exact ⟨by simp [ordL, h0, h1], rfl⟩
    · go_enter Try.func62, Try.ntmps62
      go_wp2
      go_ret
      exact ⟨by simp [ordL, h0, h1], rfl⟩
  · go_enter Try.func62, Try.ntmps62
    go_wp2
    go_ret
    exact ⟨by simp [ordL]; omega, rfl⟩
def mayB (k o : Int) : Bool := if k = 0 then decide (o ≠ 2 ∧ o ≠ 3) else if k = 1 then decide (o ≠ 1 ∧ o ≠ 3) else if k = 5 then decide (o ≠ 0) else true
theorem may_calls (k o : Int) (w : World) : Calls Try.prog 63 #[.int .i64 k, .int .i64 o] w fun e w' => e = .returned (.bool (mayB k o)) ∧ w' = w := by
  unfold mayB
  by_cases h0 : k = 0
  · subst h0
    by_cases h2 : o = 2
    · subst h2
      go_enter Try.func63, Try.ntmps63
      go_wp2
      go_ret
      exact ⟨rfl, rfl⟩
    · have h2b : (o != (2 : Int)) = true := by simp; exact h2
      by_cases h3 : o = 3
      · subst h3
        go_enter Try.func63, Try.ntmps63
        go_wp2
        go_ret
        exact ⟨rfl, rfl⟩
      · have h3b : (o != (3 : Int)) = true := by simp; exact h3
        go_enter Try.func63, Try.ntmps63
        go_wp2
        go_ret
        exact ⟨by simp [h2, h3], rfl⟩
  · by_cases h1 : k = 1
    · subst h1
      by_cases h2 : o = 1
      · subst h2
        go_enter Try.func63, Try.ntmps63
        go_wp2
        go_ret
        exact ⟨rfl, rfl⟩
      · have h2b : (o != (1 : Int)) = true := by simp; exact h2
        by_cases h3 : o = 3
        · subst h3
          go_enter Try.func63, Try.ntmps63
          go_wp2
          go_ret
          exact ⟨rfl, rfl⟩
        · have h3b : (o != (3 : Int)) = true := by simp; exact h3
          go_enter Try.func63, Try.ntmps63
          go_wp2
          go_ret
          exact ⟨by simp [h2, h3], rfl⟩
    · by_cases h5 : k = 5
      · subst h5
        by_cases h2 : o = 0
        · subst h2
          go_enter Try.func63, Try.ntmps63
          go_wp2
          go_ret
          exact ⟨rfl, rfl⟩
        · have h2b : (o != (0 : Int)) = true := by simp; exact h2
          go_enter Try.func63, Try.ntmps63
          go_wp2
          go_ret
          exact ⟨by simp [h2], rfl⟩
      · go_enter Try.func63, Try.ntmps63
        go_wp2
        go_ret
        exact ⟨by simp [h0, h1, h5], rfl⟩
theorem May_calls (k o : Int) (w : World) : Calls Try.prog 32 #[.int .i64 k, .int .i64 o] w fun e w' => e = .returned (.tuple #[.bool (mayL k o), .int .i64 (if 0 ≤ k ∧ k ≤ 5 ∧ 0 ≤ o ∧ o ≤ 4 then 0 else 1)]) ∧ w' = w := by
  have HM := Aside0.mk (may_calls k o w)
  have HI := Aside0.mk (isOrder_calls o w)
  by_cases h0 : k < 0
  · have e1 : mayL k o = false := by unfold mayL; simp; omega
    rw [e1, if_neg (show ¬ (0 ≤ k ∧ k ≤ 5 ∧ 0 ≤ o ∧ o ≤ 4) by omega)]
    clear e1
    go_enter Try.func32, Try.ntmps32
    go_wp2
    go_ret2
    exact ⟨rfl, rfl⟩
  · by_cases h5 : 6 ≤ k
    · have e1 : mayL k o = false := by unfold mayL; simp; omega
      rw [e1, if_neg (show ¬ (0 ≤ k ∧ k ≤ 5 ∧ 0 ≤ o ∧ o ≤ 4) by omega)]
      clear e1
      go_enter Try.func32, Try.ntmps32
      go_wp2
      go_ret2
      exact ⟨rfl, rfl⟩
    · obtain ⟨b, hb⟩ : ∃ b, b = ordL o := ⟨_, rfl⟩
      rw [← hb] at HI
      have HO := Aside0.mk hb
      clear hb
      cases b with
      | false =>
        have e1 : ¬ (0 ≤ o ∧ o ≤ 4) := by
          have := HO.out
          unfold ordL at this
          simp at this
          omega
        have HE0 := Aside0.mk e1
        rw [show mayL k o = false by unfold mayL; simp; omega, if_neg (show ¬ (0 ≤ k ∧ k ≤ 5 ∧ 0 ≤ o ∧ o ≤ 4) by omega)]
        clear e1
        go_enter Try.func32, Try.ntmps32
        go_wp2_with (first | (go_at_call 62; refine HI.out.mono ?_; rintro e w2 ⟨rfl, hw⟩; rw [hw]; clear hw))
        go_ret2
        exact ⟨rfl, rfl⟩
      | true =>
        have HE0 := Aside0.mk (show 0 ≤ o ∧ o ≤ 4 from by
          have := HO.out
          unfold ordL at this
          simp at this
          omega)
        have e1 : mayB k o = mayL k o := by
          have := HE0.out
          unfold mayB mayL
          rw [show decide (0 ≤ k) = true by simp; omega, show decide (k ≤ 5) = true by simp; omega, show decide (0 ≤ o) = true by simp; omega, show decide (o ≤ 4) = true by simp; omega]
          by_cases c0 : k = 0
          · subst c0; simp
          · by_cases c1 : k = 1
            · subst c1; simp
            · by_cases c5 : k = 5
              · subst c5; simp
              · simp [c0, c1, c5]
        rw [e1] at HM
        rw [if_pos (show 0 ≤ k ∧ k ≤ 5 ∧ 0 ≤ o ∧ o ≤ 4 from ⟨by omega, by omega, HE0.out.1, HE0.out.2⟩)]
        clear e1
        go_enter Try.func32, Try.ntmps32
        go_wp2_with (first | (go_at_call 62; refine HI.out.mono ?_; rintro e w2 ⟨rfl, hw⟩; rw [hw]; clear hw) | (go_at_call 63; refine HM.out.mono ?_; rintro e w2 ⟨rfl, hw⟩; rw [hw]; clear hw))
        go_ret2
        exact ⟨rfl, rfl⟩
theorem fits_calls (x : LOp) (w : World) : Calls Try.prog 33 #[.agg #[.int .i64 x.k, .int .i64 x.l, .int .i64 x.v, .int .i64 x.w, .int .i64 x.o]] w fun e w' => e = .returned (.bool (fitL x)) ∧ Below w.heap.size w w' := by
  obtain ⟨k0, k1, k2, k3, k4⟩ := box_facts w x
  have B := Aside0.mk (al1 w (.cells #[.int .i64 x.k, .int .i64 x.l, .int .i64 x.v, .int .i64 x.w, .int .i64 x.o] 44 (0, 0)))
  obtain ⟨r, hr⟩ : ∃ r, r = fitL x := ⟨_, rfl⟩
  rw [← hr]
  unfold fitL at hr
  obtain ⟨k, l, v, u, o⟩ := x
  simp only at hr k0 k1 k2 k3 k4 B ⊢
  by_cases l0 : l < 0
  · rw [show decide (0 ≤ l) = false by simp; omega, Bool.false_and, Bool.false_and] at hr
    subst hr
    go_enter Try.func33, Try.ntmps33
    go_wp2
    go_ret
    exact ⟨rfl, B.out⟩
  by_cases l3 : 3 ≤ l
  · rw [show decide (l ≤ 2) = false by simp; omega, Bool.and_false, Bool.false_and] at hr
    subst hr
    go_enter Try.func33, Try.ntmps33
    go_wp2
    go_ret
    exact ⟨rfl, B.out⟩
  rw [show decide (0 ≤ l) = true by simp; omega, show decide (l ≤ 2) = true by simp; omega, Bool.true_and, Bool.true_and] at hr
  by_cases c0 : k = 0
  · subst c0
    rw [if_pos rfl] at hr
    by_cases v0 : v = 0
    · subst v0
      by_cases u0 : u = 0
      · subst u0; subst hr
        go_enter Try.func33, Try.ntmps33
        go_wp2
        go_ret
        exact ⟨rfl, B.out⟩
      · rw [show decide ((0 : Int) = 0 ∧ u = 0) = false by simp [u0]] at hr
        subst hr
        have ub : (u == (0 : Int)) = false := by simp; exact u0
        go_enter Try.func33, Try.ntmps33
        go_wp2
        go_ret
        exact ⟨rfl, B.out⟩
    · rw [show decide (v = 0 ∧ u = 0) = false by simp [v0]] at hr
      subst hr
      have ub : (v == (0 : Int)) = false := by simp; exact v0
      go_enter Try.func33, Try.ntmps33
      go_wp2
      go_ret
      exact ⟨rfl, B.out⟩
  rw [if_neg c0] at hr
  by_cases c1 : k = 1
  · subst c1
    rw [if_pos rfl] at hr
    obtain ⟨d, hd⟩ : ∃ d, d = digL v := ⟨_, rfl⟩
    have HD := Aside0.mk hd.symm
    by_cases u0 : u = 0
    · subst u0
      rw [show decide (0 ≤ v ∧ v ≤ 9 ∧ (0 : Int) = 0) = d from by rw [hd]; unfold digL; simp] at hr
      subst hr
      clear hd
      cases r <;> (
      go_enter Try.func33, Try.ntmps33
      go_wp2_with (first | (go_at_call 64; refine (digit_calls _ _).mono ?_; rintro e w2 ⟨rfl, hw⟩; rw [hw]; clear hw; rw [HD.out]))
      go_ret
      exact ⟨rfl, B.out⟩)
    · rw [show decide (0 ≤ v ∧ v ≤ 9 ∧ u = 0) = false by simp [u0]] at hr
      subst hr
      clear hd
      have ub : (u == (0 : Int)) = false := by simp; exact u0
      cases d <;> (
      go_enter Try.func33, Try.ntmps33
      go_wp2_with (first | (go_at_call 64; refine (digit_calls _ _).mono ?_; rintro e w2 ⟨rfl, hw⟩; rw [hw]; clear hw; rw [HD.out]))
      go_ret
      exact ⟨rfl, B.out⟩)
  rw [if_neg c1] at hr
  by_cases c2 : k = 2
  · subst c2
    rw [if_pos rfl] at hr
    by_cases v9 : -9 ≤ v
    · by_cases w9 : v ≤ 9
      · by_cases u0 : u = 0
        · subst u0
          rw [show decide (-9 ≤ v ∧ v ≤ 9 ∧ (0 : Int) = 0) = true by simp; omega] at hr
          subst hr
          go_enter Try.func33, Try.ntmps33
          go_wp2
          go_ret
          exact ⟨rfl, B.out⟩
        · rw [show decide (-9 ≤ v ∧ v ≤ 9 ∧ u = 0) = false by simp [u0]] at hr
          subst hr
          have ub : (u == (0 : Int)) = false := by simp; exact u0
          go_enter Try.func33, Try.ntmps33
          go_wp2
          go_ret
          exact ⟨rfl, B.out⟩
      · rw [show decide (-9 ≤ v ∧ v ≤ 9 ∧ u = 0) = false by simp; omega] at hr
        subst hr
        go_enter Try.func33, Try.ntmps33
        go_wp2
        go_ret
        exact ⟨rfl, B.out⟩
    · rw [show decide (-9 ≤ v ∧ v ≤ 9 ∧ u = 0) = false by simp; omega] at hr
      subst hr
      go_enter Try.func33, Try.ntmps33
      go_wp2
      go_ret
      exact ⟨rfl, B.out⟩
  rw [if_neg c2] at hr
  by_cases c34 : k = 3 ∨ k = 4
  · rw [if_pos c34] at hr
    obtain ⟨d, hd⟩ : ∃ d, d = digL v := ⟨_, rfl⟩
    obtain ⟨f, hf⟩ : ∃ f, f = digL u := ⟨_, rfl⟩
    have HD := Aside0.mk hd.symm
    have HF := Aside0.mk hf.symm
    rw [show decide (0 ≤ v ∧ v ≤ 9 ∧ 0 ≤ u ∧ u ≤ 9) = (d && f) from by rw [hd, hf]; unfold digL; simp [Bool.and_assoc, and_assoc]] at hr
    clear hd hf
    subst hr
    have tok := True.intro
    rcases c34 with rfl | rfl <;> cases d <;> cases f <;> (
      go_enter Try.func33, Try.ntmps33
      go_wp2_with (first | (have _t := tok; go_at_call 64; refine (digit_calls v _).mono ?_; rintro e w2 ⟨rfl, hw⟩; rw [hw, HD.out]; clear hw tok _t) | (go_at_call 64; refine (digit_calls u _).mono ?_; rintro e w2 ⟨rfl, hw⟩; rw [hw, HF.out]; clear hw))
      go_ret
      exact ⟨rfl, B.out⟩)
  rw [if_neg c34] at hr
  by_cases c5 : k = 5
  · subst c5
    rw [if_pos rfl] at hr
    by_cases e0 : l = 0
    · subst e0
      by_cases v0 : v = 0
      · subst v0
        by_cases u0 : u = 0
        · subst u0; subst hr
          go_enter Try.func33, Try.ntmps33
          go_wp2
          go_ret
          exact ⟨rfl, B.out⟩
        · rw [show decide ((0 : Int) = 0 ∧ (0 : Int) = 0 ∧ u = 0) = false by simp [u0]] at hr
          subst hr
          have ub : (u == (0 : Int)) = false := by simp; exact u0
          go_enter Try.func33, Try.ntmps33
          go_wp2
          go_ret
          exact ⟨rfl, B.out⟩
      · rw [show decide ((0 : Int) = 0 ∧ v = 0 ∧ u = 0) = false by simp [v0]] at hr
        subst hr
        have ub : (v == (0 : Int)) = false := by simp; exact v0
        go_enter Try.func33, Try.ntmps33
        go_wp2
        go_ret
        exact ⟨rfl, B.out⟩
    · rw [show decide (l = 0 ∧ v = 0 ∧ u = 0) = false by simp [e0]] at hr
      subst hr
      have ub : (l == (0 : Int)) = false := by simp; exact e0
      go_enter Try.func33, Try.ntmps33
      go_wp2
      go_ret
      exact ⟨rfl, B.out⟩
  rw [if_neg c5] at hr
  subst hr
  have q0 : (k == (0 : Int)) = false := by simp; exact c0
  have q1 : (k == (1 : Int)) = false := by simp; exact c1
  have q2 : (k == (2 : Int)) = false := by simp; exact c2
  have q3 : (k == (3 : Int)) = false := by simp; exact fun h => c34 (.inl h)
  have q4 : (k == (4 : Int)) = false := by simp; exact fun h => c34 (.inr h)
  have q5 : (k == (5 : Int)) = false := by simp; exact c5
  go_enter Try.func33, Try.ntmps33
  go_wp2
  go_ret
  exact ⟨rfl, B.out⟩
end Go.Proofs.Ytgfbgbclpeihdaa.Li
