/- What the Go functions of this text compute, as plain Lean functions, and that the machine does just that: written by a program of this session; no condition. -/
import Derived.Test.YtefhhaccoeljmaaXS0
import Derived.Test.YtefhhaccoeljmaaXS1
namespace Go.Proofs.Ytefhhaccoeljmaa.XS
open Go.RowKit Go.Proofs.YtefhhaccoeljmaaW.PrintWords Go.Proofs.YtefhhaccoeljmaaW.PrintLast Go.Proofs.YtefhhaccoeljmaaW.PrintMore
attribute [local go_sem] max2_int min2_int max_two min_two max_three min_three max_four min_four   -- for this text's walks alone
set_option linter.unusedVariables false
set_option linter.unusedSimpArgs false

/-! ### locklessref23_Round: function 20 -/
mutual
def locklessref23_Round.j0 : Nat → Int → Int → Bool → Option (List Int × Int)
  | 0, _, _, _ => none
  | k + 1, x0, x1, x15 => if x15 = true then (some (([] : List Int), 1)) else (locklessref23_Round.l0 k x0 x1 ([] : List Int) 0)
def locklessref23_Round.l0 : Nat → Int → Int → List Int → Int → Option (List Int × Int)
  | 0, _, _, _, _ => none
  | k + 1, x0, x1, x6, x7 => if x7 < x1 then (if x0 = 0 then (none) else (if x6.length < 17592186044416 then (locklessref23_Round.l0 k x0 x1 (x6 ++ [Int.tmod x7 x0]) (wrap64 (x7 + 1))) else (none))) else (some (x6, 0))
end
def locklessref23_Round.f (k : Nat) (a0 : Int) (a1 : Int) : Option (List Int × Int) := (locklessref23_upTo.f a0 1 4).bind fun t133 => (if t133 = true then ((locklessref23_upTo.f a1 0 600).bind fun t134 => (locklessref23_Round.j0 k a0 a1 (!t134))) else (locklessref23_Round.j0 k a0 a1 true))
theorem locklessref23_Round.mono_l : ∀ k, (∀ y0 y1 y2, LeO (locklessref23_Round.j0 k y0 y1 y2) (locklessref23_Round.j0 (k + 1) y0 y1 y2)) ∧ (∀ y0 y1 y2 y3, LeO (locklessref23_Round.l0 k y0 y1 y2 y3) (locklessref23_Round.l0 (k + 1) y0 y1 y2 y3))
  | 0 => ⟨fun _ _ _ r h => by simp [locklessref23_Round.j0] at h, fun _ _ _ _ r h => by simp [locklessref23_Round.l0] at h⟩
  | k + 1 => by
    obtain ⟨ih0, ih1⟩ := locklessref23_Round.mono_l k
    refine ⟨?_, ?_⟩
    · intro y0 y1 y2
      unfold locklessref23_Round.j0
      repeat' first
      | (with_reducible exact ih0 _ _ _)
      | (with_reducible exact ih1 _ _ _ _)
      | (with_reducible exact LeO.refl _)
      | (with_reducible exact LeO.none _)
      | (with_reducible refine LeO.ite ?_ ?_)
      | (with_reducible refine LeO.bind ?_ (fun _ => ?_))
      | exact ih0 _ _ _
      | exact ih1 _ _ _ _
      | exact LeO.none _
      | refine LeO.ite ?_ ?_
      | refine LeO.bind ?_ (fun _ => ?_)
    · intro y0 y1 y2 y3
      unfold locklessref23_Round.l0
      repeat' first
      | (with_reducible exact ih0 _ _ _)
      | (with_reducible exact ih1 _ _ _ _)
      | (with_reducible exact LeO.refl _)
      | (with_reducible exact LeO.none _)
      | (with_reducible refine LeO.ite ?_ ?_)
      | (with_reducible refine LeO.bind ?_ (fun _ => ?_))
      | exact ih0 _ _ _
      | exact ih1 _ _ _ _
      | exact LeO.none _
      | refine LeO.ite ?_ ?_
      | refine LeO.bind ?_ (fun _ => ?_)
theorem locklessref23_Round.mono : ∀ a0 a1 k, LeO (locklessref23_Round.f k a0 a1) (locklessref23_Round.f (k + 1) a0 a1) := by
  intro a0 a1 k
  obtain ⟨ih0, ih1⟩ := locklessref23_Round.mono_l k
  unfold locklessref23_Round.f
  repeat' first
      | (with_reducible exact ih0 _ _ _)
      | (with_reducible exact ih1 _ _ _ _)
      | (with_reducible exact LeO.refl _)
      | (with_reducible exact LeO.none _)
      | (with_reducible refine LeO.ite ?_ ?_)
      | (with_reducible refine LeO.bind ?_ (fun _ => ?_))
      | exact ih0 _ _ _
      | exact ih1 _ _ _ _
      | exact LeO.none _
      | refine LeO.ite ?_ ?_
      | refine LeO.bind ?_ (fun _ => ?_)
set_option maxHeartbeats 8000000 in
set_option maxRecDepth 100000 in
theorem locklessref23_Round.calls (k : Nat) (a0 : Int) (a1 : Int) (r1 : List Int) (r2 : Int) (w : World) (h : locklessref23_Round.f k a0 a1 = some (r1, r2)) :
    Calls Try.prog 20 #[.int .i64 a0, .int .i64 a1] w fun e w' => ∃ v0_ : Value, e = .returned (.tuple #[v0_, .int .i64 r2]) ∧ Kd.R (Kd.int .i64) 3 w' w.heap.size (fun _ => True) v0_ r1 ∧ Below w.heap.size w w' := by
  have HB := Aside0.mk (Below.refl w.heap.size w)
  have H : ((locklessref23_upTo.f a0 1 4).bind fun t133 => (if t133 = true then ((locklessref23_upTo.f a1 0 600).bind fun t134 => (locklessref23_Round.j0 k a0 a1 (!t134))) else (locklessref23_Round.j0 k a0 a1 true))) = some (r1, r2) := h
  clear h
  have HC3 := Aside0.mk H
  clear H
  go_enter Try.func20, Try.ntmps20
  go_upto_region 1 with (fail)
  go_cut [15] (fun v15 wc => ∃ (kq : Nat) (x15_2 : Bool), v15 = .bool x15_2 ∧ Aside0 (locklessref23_Round.j0 kq a0 a1 x15_2 = some (r1, r2)) ∧ Aside0 (kq ≤ k) ∧ Aside0 (Below w.heap.size w wc))
  case first =>
    have H := HC3.out
    clear HC3
    replace H := Option.bind_eq_some_iff.mp H
    obtain ⟨t133, A40, H⟩ := H
    replace H : (if t133 = true then ((locklessref23_upTo.f a1 0 600).bind fun t134 => (locklessref23_Round.j0 k a0 a1 (!t134))) else (locklessref23_Round.j0 k a0 a1 true)) = some (r1, r2) := H
    have A4 := Aside0.mk A40
    clear A40
    by_cases c5 : t133 = true
    · subst c5
      have H1 : ((locklessref23_upTo.f a1 0 600).bind fun t134 => (locklessref23_Round.j0 k a0 a1 (!t134))) = some (r1, r2) := by rw [if_pos rfl] at H; exact H
      clear H
      have H := H1
      clear H1
      replace H := Option.bind_eq_some_iff.mp H
      obtain ⟨t134, A60, H⟩ := H
      replace H : (locklessref23_Round.j0 k a0 a1 (!t134)) = some (r1, r2) := H
      have A6 := Aside0.mk A60
      clear A60
      have H' := Aside0.mk H
      clear H
      go_wp2_with (first | ((with_reducible refine gate_callee (f := 40) rfl ?_); refine goesL_ (some 9) rfl rfl Try.func40 (by kernel_rfl) rfl #[.int .i64 a0, .int .i64 1, .int .i64 4] rfl (by (try simp only [List.map_toArray, List.map_cons, List.map_nil]); first | done | rfl | (simp only [List.length_drop, List.length_take]; rfl)) ?_; (with_reducible refine (locklessref23_upTo.calls a0 1 4 true _ A4.out).mono ?_); rintro e w' ⟨rfl, ⟨nd, rfl⟩⟩; refine ⟨_, rfl, ?_⟩) | (go_at_call 40; (with_reducible refine (locklessref23_upTo.calls a1 0 600 t134 _ A6.out).mono ?_); rintro e w' ⟨rfl, ⟨nd, rfl⟩⟩))
      go_meet
      case rel => exact ⟨_, (!t134), (by first | rfl | (simp; done) | (simp [*]; done)), H', ⟨by first | omega | exact Nat.le_refl _⟩, ⟨by repeat (first | (with_reducible first | exact HB.out | apply below_alloc | apply pw_below_drewN | apply below_drew1) | exact HB.out)⟩⟩
    · replace c5 := Bool.eq_false_iff.mpr c5
      subst c5
      have H1 : (locklessref23_Round.j0 k a0 a1 true) = some (r1, r2) := by rw [if_neg (show ¬ (false = true) by decide)] at H; exact H
      clear H
      have H := H1
      clear H1
      have H' := Aside0.mk H
      clear H
      go_wp2_with (first | ((with_reducible refine gate_callee (f := 40) rfl ?_); refine goesL_ (some 9) rfl rfl Try.func40 (by kernel_rfl) rfl #[.int .i64 a0, .int .i64 1, .int .i64 4] rfl (by (try simp only [List.map_toArray, List.map_cons, List.map_nil]); first | done | rfl | (simp only [List.length_drop, List.length_take]; rfl)) ?_; (with_reducible refine (locklessref23_upTo.calls a0 1 4 false _ A4.out).mono ?_); rintro e w' ⟨rfl, ⟨nd, rfl⟩⟩; refine ⟨_, rfl, ?_⟩))
      go_meet
      case rel => exact ⟨_, (true), (by first | rfl | (simp; done) | (simp [*]; done)), H', ⟨by first | omega | exact Nat.le_refl _⟩, ⟨by repeat (first | (with_reducible first | exact HB.out | apply below_alloc | apply pw_below_drewN | apply below_drew1) | exact HB.out)⟩⟩
  case rest =>
    clear HC3
    try clear c2
    try clear p2
    try clear c4
    try clear c5
    obtain ⟨kq, x15_2, rfl, HA, HJ2, HB⟩ := hcut
    cases kq with
    | zero => exact absurd HA.out (by simp [locklessref23_Round.j0])
    | succ kj2 =>
      have H := HA.out
      clear HA
      simp only [locklessref23_Round.j0] at H
      by_cases c7 : x15_2 = true
      · subst c7
        have H1 : (some (([] : List Int), 1)) = some (r1, r2) := by rw [if_pos rfl] at H; exact H
        clear H
        have H := H1
        clear H1
        simp only [Option.some.injEq, Prod.mk.injEq] at H
        obtain ⟨rfl, rfl⟩ := H
        go_wp2
        go_ret2
        exact ⟨_, by first | rfl | (simp [errW_none, errW_some] <;> rfl) | (simp [*, errW_none, errW_some] <;> rfl), by first | exact Kd.R_nil _ _ _ _ _ | exact Kd.N_nil _ _ _ _ _ | exact Kd.V_nil _ _ _ _ _ | exact Kd.Q_nil _ _ _ _ _ | exact Kd.S_nil _ _ _ _ _, by repeat (first | (with_reducible first | exact HB.out | apply below_alloc | apply pw_below_drewN | apply below_drew1) | exact HB.out)⟩
      · replace c7 := Bool.eq_false_iff.mpr c7
        subst c7
        have H1 : (locklessref23_Round.l0 kj2 a0 a1 ([] : List Int) 0) = some (r1, r2) := by rw [if_neg (show ¬ (false = true) by decide)] at H; exact H
        clear H
        have H := H1
        clear H1
        have H' := Aside0.mk H
        clear H
        go_wp2
        go_loopg [6, 7] kj2 (fun kq v6 v7 w' => ∃ (x6_2 : List Int) (x7_2 : Int), v7 = .int .i64 x7_2 ∧ Aside0 (locklessref23_Round.l0 kq a0 a1 x6_2 x7_2 = some (r1, r2)) ∧ Aside0 (kq ≤ kj2) ∧ Aside0 (Kd.R (Kd.int .i64) 3 w' w.heap.size (fun _ => True) v6 x6_2) ∧ Aside0 (Below w.heap.size w w'))
        case atStart => exact ⟨(([] : List Int)), (0), (by first | rfl | (simp; done) | (simp [*]; done)), H', ⟨Nat.le_refl _⟩, ⟨by first | exact Kd.R_nil _ _ _ _ _ | exact Kd.N_nil _ _ _ _ _ | exact Kd.V_nil _ _ _ _ _ | exact Kd.Q_nil _ _ _ _ _ | exact Kd.S_nil _ _ _ _ _⟩, ⟨by repeat (first | (with_reducible first | exact HB.out | apply below_alloc | apply pw_below_drewN | apply below_drew1) | exact HB.out)⟩⟩
        case round =>
          clear H'
          try clear c2
          try clear p2
          try clear c4
          try clear c5
          try clear c7
          try clear p2
          obtain ⟨x6_2, x7_2, rfl, HA, HK2, HO_6, HB⟩ := hrel
          cases gk with
          | zero => exact absurd HA.out (by simp [locklessref23_Round.l0])
          | succ k2 =>
            have H := HA.out
            clear HA
            simp only [locklessref23_Round.l0] at H
            by_cases c8 : x7_2 < a1
            · rw [if_pos c8] at H
              have c8b0 : decide (x7_2 < a1) = true := decide_eq_true c8
              clear c8
              by_cases c9 : a0 = 0
              · rw [if_pos c9] at H
                exact absurd H (by simp)
              · rw [if_neg c9] at H
                have c9b0 : (a0 == 0) = false := beq_eq_false_iff_ne.mpr c9
                have c9b1 : (a0 != 0) = true := bne_iff_ne.mpr c9
                by_cases c10 : x6_2.length < 17592186044416
                · rw [if_pos c10] at H
                  have LMc10 := Aside0.mk c10
                  clear c10
                  obtain ⟨y135, hy135⟩ : ∃ y_ : List Int, y_ = (x6_2 ++ [Int.tmod x7_2 a0]) := ⟨_, rfl⟩
                  replace H : (locklessref23_Round.l0 k2 a0 a1 y135 (wrap64 (x7_2 + 1))) = some (r1, r2) := by first | (rw [hy135]; with_reducible exact H) | (have H2_ := (Option.bind_some _ _).symm.trans H; rw [hy135]; with_reducible exact H2_) | (have H2_ := (Option.bind_some _ _).symm.trans H; with_reducible exact H2_) | with_reducible exact H | (rw [hy135]; exact H) | exact H
                  have Ny135 := Aside0.mk hy135
                  clear hy135
                  have H' := Aside0.mk H
                  clear H
                  go_wp2_with (first | ((with_reducible refine gate_builtin (b := .append) (xs := #[.tmp 21, .tmp 25]) rfl ?_); at_builtin; refine Kd.R_append (Kd.int .i64) (w0 := w) w.heap.size rfl (.tmp 21) (.tmp 25) 22 3 (.int .i64 0) 8 rfl Try.underlying22 info3 rfl (by decide) (by omega) u6 x6_2 (Int.tmod x7_2 a0) [.int .i64 (Int.tmod x7_2 a0)] (fun _ => True) (fun _ => False) rfl rfl ?aP (fun _ hk => hk.elim) ?aF ?aO ?aB ?aS ?aL ?_; (case aP => exact rfl); (case aB => exact (by repeat (first | (with_reducible first | exact HB.out | apply below_alloc | apply pw_below_drewN | apply below_drew1) | exact HB.out))); (case aF => exact (fun _ _ => trivial)); (case aO => exact (by (with_reducible repeat (first | apply Kd.R_alloc | apply Kd.R_drewN | apply Kd.R_drew)); exact HO_6.out)); (case aS => exact (below_size (by repeat (first | (with_reducible first | exact HB.out | apply below_alloc | apply pw_below_drewN | apply below_drew1) | exact HB.out)))); (case aL => have := LMc10.out; omega); intro v136 w11 ho hb hg hat; rw [← Ny135.out] at ho; have n0_ := Aside0.mk (hb); have n1_ := Aside0.mk (ho); clear HB; clear HO_6; have HB := n0_; have HO137 := n1_; clear n0_ n1_; clear ho hb hg hat))
                  go_roundg k2
                  case measure => have := HJ2.out; have := HK2.out; omega
                  case rel => exact ⟨(y135), (wrap64 (x7_2 + 1)), (by first | rfl | (simp; done) | (simp [*]; done)), H', ⟨by have := HJ2.out; have := HK2.out; omega⟩, ⟨by (with_reducible repeat (first | apply Kd.R_alloc | apply Kd.R_drewN | apply Kd.R_drew)); exact HO137.out⟩, ⟨by repeat (first | (with_reducible first | exact HB.out | apply below_alloc | apply pw_below_drewN | apply below_drew1) | exact HB.out)⟩⟩
                · rw [if_neg c10] at H
                  exact absurd H (by simp)
            · rw [if_neg c8] at H
              have c8b0 : decide (x7_2 < a1) = false := decide_eq_false c8
              clear c8
              simp only [Option.some.injEq, Prod.mk.injEq] at H
              obtain ⟨rfl, rfl⟩ := H
              go_wp2
              go_ret2
              exact ⟨_, by first | rfl | (simp [errW_none, errW_some] <;> rfl) | (simp [*, errW_none, errW_some] <;> rfl), by (with_reducible repeat (first | apply Kd.R_alloc | apply Kd.R_drewN | apply Kd.R_drew)); exact HO_6.out, by repeat (first | (with_reducible first | exact HB.out | apply below_alloc | apply pw_below_drewN | apply below_drew1) | exact HB.out)⟩

-- NOT PRINTED: function 51 (slices_IndexFunc_int_int)

-- NOT PRINTED: function 42 (slices_ContainsFunc_int_int)

/-! ### sched_Fair: function 21 -/

/-- A slice that is only read, cut at both ends. -/
theorem mid_run (A : Option Addr) (c : Nat) (xs : List Int) (a b : Int) (h0 : 0 ≤ a) (h1 : a ≤ b) (hm : b ≤ xs.length) (hc : xs.length ≤ c) :
    ∃ A' : Option Addr, (∀ W : World, (Instr.slice 22 (.slice A xs.length c) (some (.int .i64 a)) (some (.int .i64 b)) none).run Try.prog W = .ok (.slice A' ((xs.take b.toNat).drop a.toNat).length (c - a.toNat)) W) ∧
      (∀ w : World, Kd.C (Kd.int .i64) w A xs.length xs → Kd.C (Kd.int .i64) w A' ((xs.take b.toNat).drop a.toNat).length ((xs.take b.toNat).drop a.toNat)) := by
  obtain ⟨i, hi, hsz⟩ : ∃ i, Try.prog.info? 3 = some i ∧ i.size = 1 := by
    obtain ⟨i0, hi, hz⟩ := Option.map_eq_some_iff.1 info3
    simp only [Prod.mk.injEq] at hz
    exact ⟨i0, hi, hz.2.1⟩
  have hl : ((xs.take b.toNat).drop a.toNat).length = b.toNat - a.toNat := by rw [List.length_drop, List.length_take]; omega
  refine ⟨if c = a.toNat then A else A.map (·.add (a.toNat * 1)), fun W => ?_, fun w h => ?_⟩
  · rw [cut_mid 22 3 .i64 .i64 Try.underlying22 hi 1 hsz A xs.length c a b h0 h1 hm hc W, hl]
  · exact Kd.C_mid (lo := a.toNat) (hi := b.toNat) (c := c) h (by omega) (by omega) hc
/-- Has the window that begins at fr a step of thread t? -/
def winHas (l : List Int) (fr win t : Nat) : Bool := ((l.take (fr + win)).drop fr).any (fun x => Int.tmod x 10 == (t : Int))
def fairAt (l : List Int) (th win fr : Nat) : Bool := (List.range th).all (winHas l fr win)
def fairB (l : List Int) (th win : Nat) : Bool := (List.range (l.length + 1 - win)).all (fairAt l th win)
theorem fairB_true (l : List Int) (th win : Nat) (h : ∀ fr, fr + win ≤ l.length → fairAt l th win fr = true) : fairB l th win = true := by
  simp only [fairB, List.all_eq_true, List.mem_range]
  exact fun fr hf => h fr (by omega)
theorem fairAt_true (l : List Int) (th win fr : Nat) (h : ∀ t, t < th → winHas l fr win t = true) : fairAt l th win fr = true := by
  simp only [fairAt, List.all_eq_true, List.mem_range]
  exact h
theorem fairB_false (l : List Int) (th win fr t : Nat) (hf : fr + win ≤ l.length) (ht : t < th) (h : winHas l fr win t = false) : fairB l th win = false := by
  rw [Bool.eq_false_iff]
  intro hc
  simp only [fairB, fairAt, List.all_eq_true, List.mem_range] at hc
  rw [hc fr (by omega) t ht] at h
  exact absurd h (by decide)
def fairOk (l : List Int) (a1 a2 : Int) : Bool := validL l && decide (1 ≤ a1 ∧ a1 ≤ 4 ∧ 1 ≤ a2 ∧ a2 ≤ 600)
def sched_Fair.f (l0 : List Int) (a1 a2 : Int) : Option (Bool × Int) := some (if fairOk l0 a1 a2 then (fairB l0 a1.toNat a2.toNat, 0) else (false, 1))
theorem stepIs_calls (x t : Int) (B : Nat) (w : World) (hc : w.cell? ⟨B, 0, none⟩ = some (.int .i64 t)) : Calls Try.prog 45 #[.int .i64 x, .pointer (some ⟨B, 0, none⟩)] w fun e w' => e = .returned (.bool (Int.tmod x 10 == t)) ∧ ∃ q, w' = w.drewN q := by
  have hw : ∀ w : World, Calls Try.prog 44 #[.int .i64 x] w fun e w' => e = .returned (.int .i64 (Int.tmod x 10)) ∧ w' = w := fun w => by
    go_enter Try.func44, Try.ntmps44
    go_wp2
    go_ret
    exact ⟨rfl, rfl⟩
  go_enter Try.func45, Try.ntmps45
  go_wp2
  go_quiet ((go_at_call 44; exact Calls.quiet_of_same (hw _)))
  go_wp2
  go_ret
  exact ⟨rfl, _, rfl⟩
theorem sched_Fair.no (A0 : Option Addr) (c0 : Nat) (l0 : List Int) (a1 a2 : Int) (w : World) (hr0 : Kd.C (Kd.int .i64) w A0 l0.length l0) (hc0 : l0.length ≤ c0) (h : fairOk l0 a1 a2 = false) :
    Calls Try.prog 21 #[.slice A0 l0.length c0, .int .i64 a1, .int .i64 a2] w fun e w' => e = .returned (.tuple #[.bool false, .int .i64 1]) ∧ Below w.heap.size w w' := by
  by_cases hv : validL l0 = true
  · have HV := sched_Valid.calls A0 c0 l0 true w hr0 hc0 (by rw [sched_Valid.f, hv])
    by_cases h1 : a1 < 1
    · clear h hv hr0
      go_enter Try.func21, Try.ntmps21
      go_wp2_with (go_at_call 17; refine HV.mono ?_; rintro e w' ⟨rfl, ⟨nd, rfl⟩⟩)
      all_goals (go_ret2; exact ⟨rfl, by repeat (first | exact Below.refl _ _ | apply pw_below_drewN)⟩)
    · by_cases h2 : 4 < a1
      · clear h hv hr0
        go_enter Try.func21, Try.ntmps21
        go_wp2_with (go_at_call 17; refine HV.mono ?_; rintro e w' ⟨rfl, ⟨nd, rfl⟩⟩)
        all_goals (go_ret2; exact ⟨rfl, by repeat (first | exact Below.refl _ _ | apply pw_below_drewN)⟩)
      · by_cases h3 : a2 < 1
        · clear h hv hr0
          go_enter Try.func21, Try.ntmps21
          go_wp2_with (go_at_call 17; refine HV.mono ?_; rintro e w' ⟨rfl, ⟨nd, rfl⟩⟩)
          all_goals (go_ret2; exact ⟨rfl, by repeat (first | exact Below.refl _ _ | apply pw_below_drewN)⟩)
        · have h4 : 600 < a2 := by
            simp only [fairOk, hv, Bool.true_and, decide_eq_false_iff_not] at h
            omega
          clear h hv hr0
          go_enter Try.func21, Try.ntmps21
          go_wp2_with (go_at_call 17; refine HV.mono ?_; rintro e w' ⟨rfl, ⟨nd, rfl⟩⟩)
          all_goals (go_ret2; exact ⟨rfl, by repeat (first | exact Below.refl _ _ | apply pw_below_drewN)⟩)
  · have hv' : validL l0 = false := by simpa using hv
    have HV := sched_Valid.calls A0 c0 l0 false w hr0 hc0 (by rw [sched_Valid.f, hv'])
    clear h hv hv' hr0
    go_enter Try.func21, Try.ntmps21
    go_wp2_with (go_at_call 17; refine HV.mono ?_; rintro e w' ⟨rfl, ⟨nd, rfl⟩⟩)
    all_goals (go_ret2; exact ⟨rfl, by repeat (first | exact Below.refl _ _ | apply pw_below_drewN)⟩)
set_option maxHeartbeats 4000000 in
theorem sched_Fair.yes (A0 : Option Addr) (c0 : Nat) (l0 : List Int) (th win : Nat) (w : World) (hr0 : Kd.C (Kd.int .i64) w A0 l0.length l0) (hc0 : l0.length ≤ c0) (hv : validL l0 = true) (h1 : 1 ≤ th) (h2 : th ≤ 4) (h3 : 1 ≤ win) (h4 : win ≤ 600) (hl : l0.length ≤ 600) :
    Calls Try.prog 21 #[.slice A0 l0.length c0, .int .i64 th, .int .i64 win] w fun e w' => e = .returned (.tuple #[.bool (fairB l0 th win), .int .i64 0]) ∧ Below w.heap.size w w' := by
  have HV := sched_Valid.calls A0 c0 l0 true w hr0 hc0 (by rw [sched_Valid.f, hv])
  have HR := Aside0.mk hr0
  have eg : ∀ args w, (callFunc 45 args).run Try.prog w = .ok (.enter 45 args) w := enters_of Try.func45 (by kernel_rfl) rfl
  have EG := Aside0.mk eg
  clear hv hr0 eg
  have f1 : decide ((th : Int) < 1) = false := decide_eq_false (by omega)
  have f2 : decide (4 < (th : Int)) = false := decide_eq_false (by omega)
  have f3 : decide ((win : Int) < 1) = false := decide_eq_false (by omega)
  have f4 : decide (600 < (win : Int)) = false := decide_eq_false (by omega)
  go_enter Try.func21, Try.ntmps21
  go_wp2_with (go_at_call 17; refine HV.mono ?_; rintro e w' ⟨rfl, ⟨nd, rfl⟩⟩)
  clear f1 f2 f3 f4 HV
  go_loopg [8] (l0.length + 1 - win) (fun gg v8 w' => ∃ kk : Nat, l0.length + 1 - win - kk ≤ gg ∧ v8 = .int .i64 kk ∧ kk ≤ 600 ∧ Aside0 (∀ f, f < kk → fairAt l0 th win f = true) ∧ Aside0 (Below w.heap.size w w'))
  case atStart => exact ⟨0, by omega, rfl, by omega, ⟨fun f hf => absurd hf (Nat.not_lt_zero _)⟩, ⟨by repeat (first | exact Below.refl _ _ | apply pw_below_drewN)⟩⟩
  case round =>
    obtain ⟨kk, hg, rfl, hk6, HF, HB⟩ := hrel
    by_cases hlt : kk + win ≤ l0.length
    · have hltz : (kk : Int) + win ≤ (l0.length : Int) := by omega
      obtain ⟨A', hsl, hrd⟩ := mid_run A0 c0 l0 kk (kk + win) (by omega) (by omega) (by omega) hc0
      rw [show ((kk : Int) + win).toNat = kk + win by omega, show (kk : Int).toNat = kk by omega] at hsl hrd
      have HRD := Aside0.mk hrd
      clear hrd
      obtain ⟨m, hm⟩ : ∃ m, m = (l0.take (kk + win)).drop kk := ⟨_, rfl⟩
      rw [← hm] at hsl HRD
      have HM := Aside0.mk hm
      clear hm
      go_wp2
      obtain ⟨wo, hwo⟩ : ∃ wo : World, wo = wr := ⟨_, rfl⟩
      subst hwo
      go_loopg [9, 38] th (fun gg v9 v38 w' => ∃ jj : Nat, jj ≤ th ∧ th - jj ≤ gg ∧ v38 = .int .i64 jj ∧ Aside0 (∀ t, t < jj → winHas l0 kk win t = true) ∧ Aside0 (Below w.heap.size w w'))
      case atStart => exact ⟨0, by omega, by omega, rfl, ⟨fun f hf => absurd hf (Nat.not_lt_zero _)⟩, HB⟩
      case round =>
        clear HB
        obtain ⟨jj, hjj, hg2, rfl, HT, HB⟩ := hrel
        by_cases hlj : jj < th
        · have hljz : (jj : Int) < (th : Int) := by omega
          have hcon : ∀ (W : World) (B : Nat), W.cell? ⟨B, 0, none⟩ = some (.int .i64 (jj : Int)) → Below w.heap.size w W → Calls Try.prog 42 #[.slice A' m.length (c0 - kk), .func (.func 45) #[] #[.pointer (some ⟨B, 0, none⟩)]] W fun e w' => e = .returned (.bool (m.any (fun x => Int.tmod x 10 == (jj : Int)))) ∧ ∃ q, w' = W.drewN q := fun W B hc hb =>
            containsFunc_any _ 45 _ EG.out A' (c0 - kk) m W (fun x q => stepIs_calls x jj B (W.drewN q) (by simpa using hc)) (HRD.out W (Kd.C_below HR.out hb))
          have hwin : winHas l0 kk win jj = m.any (fun x => Int.tmod x 10 == (jj : Int)) := by unfold winHas; rw [← HM.out]
          generalize hq : m.any (fun x => Int.tmod x 10 == (jj : Int)) = b at hcon hwin
          clear hq
          have HC := Aside0.mk hcon
          clear hcon
          have HW := Aside0.mk hwin
          clear hwin
          cases b with
          | true =>
            go_wp2_with (go_at_call 42; refine (HC.out _ wr.heap.size (by simp) (by repeat (first | exact HB.out | apply below_alloc | apply pw_below_drewN))).mono ?_; rintro e w' ⟨rfl, q, rfl⟩)
            go_roundg (th - (jj + 1))
            case measure => omega
            case rel => exact ⟨jj + 1, by omega, by omega, by go_num, ⟨fun t ht => by
              by_cases e : t = jj
              · rw [e]; exact HW.out
              · exact HT.out t (by omega)⟩, ⟨by repeat (first | exact HB.out | apply below_alloc | apply pw_below_drewN)⟩⟩
          | false =>
            have HZ := Aside0.mk (fairB_false l0 th win kk jj hlt hlj HW.out)
            go_wp2_with (go_at_call 42; refine (HC.out _ wr.heap.size (by simp) (by repeat (first | exact HB.out | apply below_alloc | apply pw_below_drewN))).mono ?_; rintro e w' ⟨rfl, q, rfl⟩)
            go_ret2
            exact ⟨by rw [HZ.out]; rfl, by repeat (first | exact HB.out | apply below_alloc | apply pw_below_drewN)⟩
        · have e : jj = th := by omega
          subst e
          have HA := Aside0.mk (fairAt_true l0 jj win kk HT.out)
          go_wp2
          go_roundg (l0.length + 1 - win - (kk + 1))
          case measure => omega
          case rel => exact ⟨kk + 1, by omega, by go_num, by omega, ⟨fun f hf => by
            by_cases e : f = kk
            · rw [e]; exact HA.out
            · exact HF.out f (by omega)⟩, HB⟩
    · have HZ := Aside0.mk (fairB_true l0 th win (fun fr hf => HF.out fr (by omega)))
      go_wp2
      go_ret2
      exact ⟨by rw [HZ.out]; rfl, by repeat (first | exact HB.out | apply below_alloc | apply pw_below_drewN)⟩
theorem sched_Fair.calls (A0 : Option Addr) (c0 : Nat) (l0 : List Int) (a1 : Int) (a2 : Int) (r1 : Bool) (r2 : Int) (w : World) (hr0 : Kd.C (Kd.int .i64) w A0 l0.length l0) (hc0 : l0.length ≤ c0) (h : sched_Fair.f l0 a1 a2 = some (r1, r2)) :
    Calls Try.prog 21 #[.slice A0 l0.length c0, .int .i64 a1, .int .i64 a2] w fun e w' => e = .returned (.tuple #[.bool r1, .int .i64 r2]) ∧ Below w.heap.size w w' := by
  by_cases hok : fairOk l0 a1 a2 = true
  · have hv := hok
    simp only [fairOk, Bool.and_eq_true, decide_eq_true_eq] at hv
    obtain ⟨hv, h1, h2, h3, h4⟩ := hv
    have hl : l0.length ≤ 600 := by
      simp only [validL, Bool.and_eq_true, decide_eq_true_eq] at hv
      exact hv.1
    rw [sched_Fair.f, if_pos hok] at h
    obtain ⟨rfl, rfl⟩ := Prod.mk.inj (Option.some.inj h)
    obtain ⟨th, rfl⟩ := Int.eq_ofNat_of_zero_le (show 0 ≤ a1 by omega)
    obtain ⟨win, rfl⟩ := Int.eq_ofNat_of_zero_le (show 0 ≤ a2 by omega)
    exact sched_Fair.yes A0 c0 l0 th win w hr0 hc0 hv (by omega) (by omega) (by omega) (by omega) hl
  · rw [sched_Fair.f, if_neg hok] at h
    obtain ⟨rfl, rfl⟩ := Prod.mk.inj (Option.some.inj h)
    exact sched_Fair.no A0 c0 l0 a1 a2 w hr0 hc0 (by simpa using hok)

/-! ### locklesslaw23_SchedRounds: function 4 -/
def locklesslaw23_SchedRounds.j0 : Nat → Int → List Int → Int → Bool → Option (Bool)
  | 0, _, _, _, _ => none
  | k + 1, x0, x5, x6, x31 => if x31 = true then (some false) else (if x6 = 0 then ((sched_Fair.f x5 x0 x0).bind fun bt147 => (if bt147.1 = true then (if bt147.2 = 0 then ((sched_Valid.f x5).bind fun t149 => (if t149 = true then ((locklesslaw23_sane.f k).bind fun t150 => (some t150)) else (some false))) else (some false)) else (some false))) else ((locklesslaw23_sane.f k).bind fun t151 => (some t151)))
def locklesslaw23_SchedRounds.f (k : Nat) (a0 : Int) (a1 : Int) : Option (Bool) := (sched_Round.f k a0 a1).bind fun bt138 => ((locklessref23_Round.f k a0 a1).bind fun bt142 => (if bt138.2 = bt142.2 then ((locklessref01_Ints.f k bt138.1 bt142.1).bind fun t146 => (locklesslaw23_SchedRounds.j0 k a0 bt138.1 bt138.2 (!t146))) else (locklesslaw23_SchedRounds.j0 k a0 bt138.1 bt138.2 true)))
theorem locklesslaw23_SchedRounds.mono_l : ∀ k, (∀ y0 y1 y2 y3, LeO (locklesslaw23_SchedRounds.j0 k y0 y1 y2 y3) (locklesslaw23_SchedRounds.j0 (k + 1) y0 y1 y2 y3))
  | 0 => fun _ _ _ _ r h => by simp [locklesslaw23_SchedRounds.j0] at h
  | k + 1 => by
    have ih0 := locklesslaw23_SchedRounds.mono_l k
    · intro y0 y1 y2 y3
      unfold locklesslaw23_SchedRounds.j0
      repeat' first
      | (with_reducible exact ih0 _ _ _ _)
      | (with_reducible exact locklesslaw23_sane.mono _)
      | (with_reducible exact locklessref01_Ints.mono _ _ _)
      | (with_reducible exact locklessref23_Round.mono _ _ _)
      | (with_reducible exact sched_Round.mono _ _ _)
      | (with_reducible exact LeO.refl _)
      | (with_reducible exact LeO.none _)
      | (with_reducible refine LeO.ite ?_ ?_)
      | (with_reducible refine LeO.bind ?_ (fun _ => ?_))
      | exact ih0 _ _ _ _
      | exact locklesslaw23_sane.mono _
      | exact locklessref01_Ints.mono _ _ _
      | exact locklessref23_Round.mono _ _ _
      | exact sched_Round.mono _ _ _
      | exact LeO.none _
      | refine LeO.ite ?_ ?_
      | refine LeO.bind ?_ (fun _ => ?_)
theorem locklesslaw23_SchedRounds.mono : ∀ a0 a1 k, LeO (locklesslaw23_SchedRounds.f k a0 a1) (locklesslaw23_SchedRounds.f (k + 1) a0 a1) := by
  intro a0 a1 k
  have ih0 := locklesslaw23_SchedRounds.mono_l k
  unfold locklesslaw23_SchedRounds.f
  repeat' first
      | (with_reducible exact ih0 _ _ _ _)
      | (with_reducible exact locklesslaw23_sane.mono _)
      | (with_reducible exact locklessref01_Ints.mono _ _ _)
      | (with_reducible exact locklessref23_Round.mono _ _ _)
      | (with_reducible exact sched_Round.mono _ _ _)
      | (with_reducible exact LeO.refl _)
      | (with_reducible exact LeO.none _)
      | (with_reducible refine LeO.ite ?_ ?_)
      | (with_reducible refine LeO.bind ?_ (fun _ => ?_))
      | exact ih0 _ _ _ _
      | exact locklesslaw23_sane.mono _
      | exact locklessref01_Ints.mono _ _ _
      | exact locklessref23_Round.mono _ _ _
      | exact sched_Round.mono _ _ _
      | exact LeO.none _
      | refine LeO.ite ?_ ?_
      | refine LeO.bind ?_ (fun _ => ?_)
set_option maxHeartbeats 8000000 in
set_option maxRecDepth 100000 in
theorem locklesslaw23_SchedRounds.calls (k : Nat) (a0 : Int) (a1 : Int) (r : Bool) (w : World) (h : locklesslaw23_SchedRounds.f k a0 a1 = some r) :
    Calls Try.prog 4 #[.int .i64 a0, .int .i64 a1] w fun e w' => e = .returned (.bool r) ∧ Below w.heap.size w w' := by
  have HB := Aside0.mk (Below.refl w.heap.size w)
  have H : ((sched_Round.f k a0 a1).bind fun bt138 => ((locklessref23_Round.f k a0 a1).bind fun bt142 => (if bt138.2 = bt142.2 then ((locklessref01_Ints.f k bt138.1 bt142.1).bind fun t146 => (locklesslaw23_SchedRounds.j0 k a0 bt138.1 bt138.2 (!t146))) else (locklesslaw23_SchedRounds.j0 k a0 bt138.1 bt138.2 true)))) = some r := h
  clear h
  replace H := Option.bind_eq_some_iff.mp H
  obtain ⟨⟨t138, t139⟩, A30, H⟩ := H
  replace H : ((locklessref23_Round.f k a0 a1).bind fun bt142 => (if t139 = bt142.2 then ((locklessref01_Ints.f k t138 bt142.1).bind fun t146 => (locklesslaw23_SchedRounds.j0 k a0 t138 t139 (!t146))) else (locklesslaw23_SchedRounds.j0 k a0 t138 t139 true))) = some r := H
  have A3 := Aside0.mk A30
  clear A30
  replace H := Option.bind_eq_some_iff.mp H
  obtain ⟨⟨t142, t143⟩, A40, H⟩ := H
  replace H : (if t139 = t143 then ((locklessref01_Ints.f k t138 t142).bind fun t146 => (locklesslaw23_SchedRounds.j0 k a0 t138 t139 (!t146))) else (locklesslaw23_SchedRounds.j0 k a0 t138 t139 true)) = some r := H
  have A4 := Aside0.mk A40
  clear A40
  have HC5 := Aside0.mk H
  clear H
  go_enter Try.func4, Try.ntmps4
  go_upto_region 3 with (first | ((with_reducible refine gate_callee (f := 19) rfl ?_); refine goesL_ (some 14) rfl rfl Try.func19 (by kernel_rfl) rfl #[.int .i64 a0, .int .i64 a1] rfl (by (try simp only [List.map_toArray, List.map_cons, List.map_nil]); first | done | rfl | (simp only [List.length_drop, List.length_take]; rfl)) ?_; (with_reducible refine (sched_Round.calls k a0 a1 t138 t139 _ A3.out).mono ?_); rintro e w6 ⟨v140, rfl, ho0, hb⟩; refine ⟨_, rfl, ?_⟩; have n0_ := Aside0.mk (Kd.R_lower ho0 (below_size (by repeat (first | (with_reducible first | exact HB.out | apply below_alloc | apply pw_below_drewN | apply below_drew1) | exact HB.out)))); have n1_ := Aside0.mk (below_step (by repeat (first | (with_reducible first | exact HB.out | apply below_alloc | apply pw_below_drewN | apply below_drew1) | exact HB.out)) hb); clear HB; have HO141 := n0_; have HB := n1_; clear n0_ n1_; (try clear hb); (try clear hb2); (try clear hk); (try clear hi); (try clear ho0)) | ((with_reducible refine gate_callee (f := 20) rfl ?_); refine goesL_ (some 20) rfl rfl Try.func20 (by kernel_rfl) rfl #[.int .i64 a0, .int .i64 a1] rfl (by (try simp only [List.map_toArray, List.map_cons, List.map_nil]); first | done | rfl | (simp only [List.length_drop, List.length_take]; rfl)) ?_; (with_reducible refine (locklessref23_Round.calls k a0 a1 t142 t143 _ A4.out).mono ?_); rintro e w7 ⟨v144, rfl, ho0, hb⟩; refine ⟨_, rfl, ?_⟩; have n0_ := Aside0.mk (Kd.R_elder' (by (with_reducible repeat (first | apply Kd.R_alloc | apply Kd.R_drewN | apply Kd.R_drew)); exact HO141.out) (Kd.R_base ho0) hb); have n1_ := Aside0.mk (Kd.R_lower (Kd.R_new' ho0 (Kd.R_lt (by (with_reducible repeat (first | apply Kd.R_alloc | apply Kd.R_drewN | apply Kd.R_drew)); exact HO141.out))) (below_size (by repeat (first | (with_reducible first | exact HB.out | apply below_alloc | apply pw_below_drewN | apply below_drew1) | exact HB.out)))); have n2_ := Aside0.mk (below_step (by repeat (first | (with_reducible first | exact HB.out | apply below_alloc | apply pw_below_drewN | apply below_drew1) | exact HB.out)) hb); clear HO141; clear HB; have HO141 := n0_; have HO145 := n1_; have HB := n2_; clear n0_ n1_ n2_; (try clear hb); (try clear hb2); (try clear hk); (try clear hi); (try clear ho0)))
  (try simp only [Act.put, List.setIfInBounds_toArray, List.set_cons_zero, List.set_cons_succ])
  go_cut [31] (fun v31 wc => ∃ (kq : Nat) (x31_4 : Bool), v31 = .bool x31_4 ∧ Aside0 (locklesslaw23_SchedRounds.j0 kq a0 t138 t139 x31_4 = some r) ∧ Aside0 (kq ≤ k) ∧ Aside0 (Kd.R (Kd.int .i64) 3 wc w.heap.size (fun _ => True) v140 t138) ∧ Aside0 (Below w.heap.size w wc))
  case first =>
    have H := HC5.out
    clear HC5
    by_cases c8 : t139 = t143
    · rw [if_pos c8] at H
      have c8b0 : (t139 == t143) = true := beq_iff_eq.mpr c8
      have c8b1 : (t139 != t143) = false := bne_eq_false_iff_eq.mpr c8
      clear c8
      (first | rw [c8b0] | (simp only [i64_w, i32_w]; rw [c8b0]) | skip)
      replace H := Option.bind_eq_some_iff.mp H
      obtain ⟨t146, A90, H⟩ := H
      replace H : (locklesslaw23_SchedRounds.j0 k a0 t138 t139 (!t146)) = some r := H
      have A9 := Aside0.mk A90
      clear A90
      have H' := Aside0.mk H
      clear H
      obtain ⟨Ao10, co10, eo10⟩ := Kd.R_slice HO141.out
      subst eo10
      obtain ⟨Ao11, co11, eo11⟩ := Kd.R_slice HO145.out
      subst eo11
      go_wp2_with (first | (go_at_call 15; (with_reducible refine (locklessref01_Ints.calls k _ _ t138 _ _ t142 t146 _ ?side1 ?side2 ?side3 ?side4 A9.out).mono ?_); (case side1 => repeat (first | exact (Kd.R_reads' HO141.out).2.2 | (with_reducible refine Kd.C_alloc ?_ _) | (with_reducible refine Kd.C_drewN ?_ _) | (with_reducible refine Kd.C_drew ?_))); (case side2 => exact (Kd.R_reads' HO141.out).2.1); (case side3 => repeat (first | exact (Kd.R_reads' HO145.out).2.2 | (with_reducible refine Kd.C_alloc ?_ _) | (with_reducible refine Kd.C_drewN ?_ _) | (with_reducible refine Kd.C_drew ?_))); (case side4 => exact (Kd.R_reads' HO145.out).2.1); rintro e w' ⟨rfl, ⟨nd, rfl⟩⟩))
      go_meet
      case rel => exact ⟨_, (!t146), (by first | rfl | (simp; done) | (simp [*]; done)), H', ⟨by first | omega | exact Nat.le_refl _⟩, ⟨by (with_reducible repeat (first | apply Kd.R_alloc | apply Kd.R_drewN | apply Kd.R_drew)); exact Kd.R_mono HO141.out (fun _ hk => trivial)⟩, ⟨by repeat (first | (with_reducible first | exact HB.out | apply below_alloc | apply pw_below_drewN | apply below_drew1) | exact HB.out)⟩⟩
    · rw [if_neg c8] at H
      have c8b0 : (t139 == t143) = false := beq_eq_false_iff_ne.mpr c8
      have c8b1 : (t139 != t143) = true := bne_iff_ne.mpr c8
      (first | rw [c8b0] | (simp only [i64_w, i32_w]; rw [c8b0]) | skip)
      have H' := Aside0.mk H
      clear H
      go_wp2
      go_meet
      case rel => exact ⟨_, (true), (by first | rfl | (simp; done) | (simp [*]; done)), H', ⟨by first | omega | exact Nat.le_refl _⟩, ⟨by (with_reducible repeat (first | apply Kd.R_alloc | apply Kd.R_drewN | apply Kd.R_drew)); exact Kd.R_mono HO141.out (fun _ hk => trivial)⟩, ⟨by repeat (first | (with_reducible first | exact HB.out | apply below_alloc | apply pw_below_drewN | apply below_drew1) | exact HB.out)⟩⟩
  case rest =>
    clear HC5
    try clear c1
    try clear c2
    try clear p2
    try clear c4
    try clear c8
    try clear c8b0
    try clear c8b1
    obtain ⟨kq, x31_4, rfl, HA, HJ4, HO_5, HB⟩ := hcut
    cases kq with
    | zero => exact absurd HA.out (by simp [locklesslaw23_SchedRounds.j0])
    | succ kj4 =>
      have H := HA.out
      clear HA
      simp only [locklesslaw23_SchedRounds.j0] at H
      by_cases c12 : x31_4 = true
      · subst c12
        have H1 : (some false) = some r := by rw [if_pos rfl] at H; exact H
        clear H
        have H := H1
        clear H1
        obtain rfl := Option.some.inj H
        go_wp2
        go_ret
        exact ⟨by first | rfl | (simp [errW_none, errW_some] <;> rfl) | (simp [*, errW_none, errW_some] <;> rfl), by repeat (first | (with_reducible first | exact HB.out | apply below_alloc | apply pw_below_drewN | apply below_drew1) | exact HB.out)⟩
      · replace c12 := Bool.eq_false_iff.mpr c12
        subst c12
        have H1 : (if t139 = 0 then ((sched_Fair.f t138 a0 a0).bind fun bt147 => (if bt147.1 = true then (if bt147.2 = 0 then ((sched_Valid.f t138).bind fun t149 => (if t149 = true then ((locklesslaw23_sane.f kj4).bind fun t150 => (some t150)) else (some false))) else (some false)) else (some false))) else ((locklesslaw23_sane.f kj4).bind fun t151 => (some t151))) = some r := by rw [if_neg (show ¬ (false = true) by decide)] at H; exact H
        clear H
        have H := H1
        clear H1
        by_cases c13 : t139 = 0
        · rw [if_pos c13] at H
          have c13b0 : (t139 == 0) = true := beq_iff_eq.mpr c13
          have c13b1 : (t139 != 0) = false := bne_eq_false_iff_eq.mpr c13
          clear c13
          replace H := Option.bind_eq_some_iff.mp H
          obtain ⟨⟨t147, t148⟩, A140, H⟩ := H
          replace H : (if t147 = true then (if t148 = 0 then ((sched_Valid.f t138).bind fun t149 => (if t149 = true then ((locklesslaw23_sane.f kj4).bind fun t150 => (some t150)) else (some false))) else (some false)) else (some false)) = some r := H
          have A14 := Aside0.mk A140
          clear A140
          by_cases c15 : t147 = true
          · subst c15
            have H1 : (if t148 = 0 then ((sched_Valid.f t138).bind fun t149 => (if t149 = true then ((locklesslaw23_sane.f kj4).bind fun t150 => (some t150)) else (some false))) else (some false)) = some r := by rw [if_pos rfl] at H; exact H
            clear H
            have H := H1
            clear H1
            by_cases c16 : t148 = 0
            · rw [if_pos c16] at H
              have c16b0 : (t148 == 0) = true := beq_iff_eq.mpr c16
              have c16b1 : (t148 != 0) = false := bne_eq_false_iff_eq.mpr c16
              clear c16
              replace H := Option.bind_eq_some_iff.mp H
              obtain ⟨t149, A170, H⟩ := H
              replace H : (if t149 = true then ((locklesslaw23_sane.f kj4).bind fun t150 => (some t150)) else (some false)) = some r := H
              have A17 := Aside0.mk A170
              clear A170
              by_cases c18 : t149 = true
              · subst c18
                have H1 : ((locklesslaw23_sane.f kj4).bind fun t150 => (some t150)) = some r := by rw [if_pos rfl] at H; exact H
                clear H
                have H := H1
                clear H1
                replace H := Option.bind_eq_some_iff.mp H
                obtain ⟨t150, A190, H⟩ := H
                replace H : (some t150) = some r := H
                have A19 := Aside0.mk A190
                clear A190
                obtain rfl := Option.some.inj H
                obtain ⟨Ao20, co20, eo20⟩ := Kd.R_slice HO_5.out
                subst eo20
                go_wp2_with (first | ((with_reducible refine gate_callee (f := 21) rfl ?_); refine goesL_ (some 38) rfl rfl Try.func21 (by kernel_rfl) rfl #[.slice Ao20 t138.length co20, .int .i64 a0, .int .i64 a0] rfl (by (try simp only [List.map_toArray, List.map_cons, List.map_nil]); first | done | rfl | (simp only [List.length_drop, List.length_take]; rfl)) ?_; (with_reducible refine (sched_Fair.calls _ _ t138 a0 a0 true t148 _ ?side1 ?side2 A14.out).mono ?_); (case side1 => repeat (first | exact (Kd.R_reads' HO_5.out).2.2 | (with_reducible refine Kd.C_alloc ?_ _) | (with_reducible refine Kd.C_drewN ?_ _) | (with_reducible refine Kd.C_drew ?_))); (case side2 => exact (Kd.R_reads' HO_5.out).2.1); rintro e w21 ⟨rfl, hb⟩; refine ⟨_, rfl, ?_⟩; have n0_ := Aside0.mk (Kd.R_below (by (with_reducible repeat (first | apply Kd.R_alloc | apply Kd.R_drewN | apply Kd.R_drew)); exact HO_5.out) hb); have n1_ := Aside0.mk (below_step (by repeat (first | (with_reducible first | exact HB.out | apply below_alloc | apply pw_below_drewN | apply below_drew1) | exact HB.out)) hb); clear HO_5; clear HB; have HO_5 := n0_; have HB := n1_; clear n0_ n1_; (try clear hb); (try clear hb2); (try clear hk); (try clear hi)) | (go_at_call 17; (with_reducible refine (sched_Valid.calls _ _ t138 true _ ?side1 ?side2 A17.out).mono ?_); (case side1 => repeat (first | exact (Kd.R_reads' HO_5.out).2.2 | (with_reducible refine Kd.C_alloc ?_ _) | (with_reducible refine Kd.C_drewN ?_ _) | (with_reducible refine Kd.C_drew ?_))); (case side2 => exact (Kd.R_reads' HO_5.out).2.1); rintro e w' ⟨rfl, ⟨nd, rfl⟩⟩) | ((with_reducible refine gate_callee (f := 11) rfl ?_); refine goesL_ (some 52) rfl rfl Try.func11 (by kernel_rfl) rfl #[] rfl (by (try simp only [List.map_toArray, List.map_cons, List.map_nil]); first | done | rfl | (simp only [List.length_drop, List.length_take]; rfl)) ?_; (with_reducible refine (locklesslaw23_sane.calls kj4  t150 _ A19.out).mono ?_); rintro e w22 ⟨rfl, hb⟩; refine ⟨_, rfl, ?_⟩; have n0_ := Aside0.mk (Kd.R_below (by (with_reducible repeat (first | apply Kd.R_alloc | apply Kd.R_drewN | apply Kd.R_drew)); exact HO_5.out) hb); have n1_ := Aside0.mk (below_step (by repeat (first | (with_reducible first | exact HB.out | apply below_alloc | apply pw_below_drewN | apply below_drew1) | exact HB.out)) hb); clear HO_5; clear HB; have HO_5 := n0_; have HB := n1_; clear n0_ n1_; (try clear hb); (try clear hb2); (try clear hk); (try clear hi)))
                go_ret
                exact ⟨by first | rfl | (simp [errW_none, errW_some] <;> rfl) | (simp [*, errW_none, errW_some] <;> rfl), by repeat (first | (with_reducible first | exact HB.out | apply below_alloc | apply pw_below_drewN | apply below_drew1) | exact HB.out)⟩
              · replace c18 := Bool.eq_false_iff.mpr c18
                subst c18
                have H1 : (some false) = some r := by rw [if_neg (show ¬ (false = true) by decide)] at H; exact H
                clear H
                have H := H1
                clear H1
                obtain rfl := Option.some.inj H
                obtain ⟨Ao23, co23, eo23⟩ := Kd.R_slice HO_5.out
                subst eo23
                go_wp2_with (first | ((with_reducible refine gate_callee (f := 21) rfl ?_); refine goesL_ (some 38) rfl rfl Try.func21 (by kernel_rfl) rfl #[.slice Ao23 t138.length co23, .int .i64 a0, .int .i64 a0] rfl (by (try simp only [List.map_toArray, List.map_cons, List.map_nil]); first | done | rfl | (simp only [List.length_drop, List.length_take]; rfl)) ?_; (with_reducible refine (sched_Fair.calls _ _ t138 a0 a0 true t148 _ ?side1 ?side2 A14.out).mono ?_); (case side1 => repeat (first | exact (Kd.R_reads' HO_5.out).2.2 | (with_reducible refine Kd.C_alloc ?_ _) | (with_reducible refine Kd.C_drewN ?_ _) | (with_reducible refine Kd.C_drew ?_))); (case side2 => exact (Kd.R_reads' HO_5.out).2.1); rintro e w24 ⟨rfl, hb⟩; refine ⟨_, rfl, ?_⟩; have n0_ := Aside0.mk (Kd.R_below (by (with_reducible repeat (first | apply Kd.R_alloc | apply Kd.R_drewN | apply Kd.R_drew)); exact HO_5.out) hb); have n1_ := Aside0.mk (below_step (by repeat (first | (with_reducible first | exact HB.out | apply below_alloc | apply pw_below_drewN | apply below_drew1) | exact HB.out)) hb); clear HO_5; clear HB; have HO_5 := n0_; have HB := n1_; clear n0_ n1_; (try clear hb); (try clear hb2); (try clear hk); (try clear hi)) | (go_at_call 17; (with_reducible refine (sched_Valid.calls _ _ t138 false _ ?side1 ?side2 A17.out).mono ?_); (case side1 => repeat (first | exact (Kd.R_reads' HO_5.out).2.2 | (with_reducible refine Kd.C_alloc ?_ _) | (with_reducible refine Kd.C_drewN ?_ _) | (with_reducible refine Kd.C_drew ?_))); (case side2 => exact (Kd.R_reads' HO_5.out).2.1); rintro e w' ⟨rfl, ⟨nd, rfl⟩⟩))
                go_ret
                exact ⟨by first | rfl | (simp [errW_none, errW_some] <;> rfl) | (simp [*, errW_none, errW_some] <;> rfl), by repeat (first | (with_reducible first | exact HB.out | apply below_alloc | apply pw_below_drewN | apply below_drew1) | exact HB.out)⟩
            · rw [if_neg c16] at H
              have c16b0 : (t148 == 0) = false := beq_eq_false_iff_ne.mpr c16
              have c16b1 : (t148 != 0) = true := bne_iff_ne.mpr c16
              obtain rfl := Option.some.inj H
              obtain ⟨Ao25, co25, eo25⟩ := Kd.R_slice HO_5.out
              subst eo25
              go_wp2_with (first | ((with_reducible refine gate_callee (f := 21) rfl ?_); refine goesL_ (some 38) rfl rfl Try.func21 (by kernel_rfl) rfl #[.slice Ao25 t138.length co25, .int .i64 a0, .int .i64 a0] rfl (by (try simp only [List.map_toArray, List.map_cons, List.map_nil]); first | done | rfl | (simp only [List.length_drop, List.length_take]; rfl)) ?_; (with_reducible refine (sched_Fair.calls _ _ t138 a0 a0 true t148 _ ?side1 ?side2 A14.out).mono ?_); (case side1 => repeat (first | exact (Kd.R_reads' HO_5.out).2.2 | (with_reducible refine Kd.C_alloc ?_ _) | (with_reducible refine Kd.C_drewN ?_ _) | (with_reducible refine Kd.C_drew ?_))); (case side2 => exact (Kd.R_reads' HO_5.out).2.1); rintro e w26 ⟨rfl, hb⟩; refine ⟨_, rfl, ?_⟩; have n0_ := Aside0.mk (Kd.R_below (by (with_reducible repeat (first | apply Kd.R_alloc | apply Kd.R_drewN | apply Kd.R_drew)); exact HO_5.out) hb); have n1_ := Aside0.mk (below_step (by repeat (first | (with_reducible first | exact HB.out | apply below_alloc | apply pw_below_drewN | apply below_drew1) | exact HB.out)) hb); clear HO_5; clear HB; have HO_5 := n0_; have HB := n1_; clear n0_ n1_; (try clear hb); (try clear hb2); (try clear hk); (try clear hi)))
              go_ret
              exact ⟨by first | rfl | (simp [errW_none, errW_some] <;> rfl) | (simp [*, errW_none, errW_some] <;> rfl), by repeat (first | (with_reducible first | exact HB.out | apply below_alloc | apply pw_below_drewN | apply below_drew1) | exact HB.out)⟩
          · replace c15 := Bool.eq_false_iff.mpr c15
            subst c15
            have H1 : (some false) = some r := by rw [if_neg (show ¬ (false = true) by decide)] at H; exact H
            clear H
            have H := H1
            clear H1
            obtain rfl := Option.some.inj H
            obtain ⟨Ao27, co27, eo27⟩ := Kd.R_slice HO_5.out
            subst eo27
            go_wp2_with (first | ((with_reducible refine gate_callee (f := 21) rfl ?_); refine goesL_ (some 38) rfl rfl Try.func21 (by kernel_rfl) rfl #[.slice Ao27 t138.length co27, .int .i64 a0, .int .i64 a0] rfl (by (try simp only [List.map_toArray, List.map_cons, List.map_nil]); first | done | rfl | (simp only [List.length_drop, List.length_take]; rfl)) ?_; (with_reducible refine (sched_Fair.calls _ _ t138 a0 a0 false t148 _ ?side1 ?side2 A14.out).mono ?_); (case side1 => repeat (first | exact (Kd.R_reads' HO_5.out).2.2 | (with_reducible refine Kd.C_alloc ?_ _) | (with_reducible refine Kd.C_drewN ?_ _) | (with_reducible refine Kd.C_drew ?_))); (case side2 => exact (Kd.R_reads' HO_5.out).2.1); rintro e w28 ⟨rfl, hb⟩; refine ⟨_, rfl, ?_⟩; have n0_ := Aside0.mk (Kd.R_below (by (with_reducible repeat (first | apply Kd.R_alloc | apply Kd.R_drewN | apply Kd.R_drew)); exact HO_5.out) hb); have n1_ := Aside0.mk (below_step (by repeat (first | (with_reducible first | exact HB.out | apply below_alloc | apply pw_below_drewN | apply below_drew1) | exact HB.out)) hb); clear HO_5; clear HB; have HO_5 := n0_; have HB := n1_; clear n0_ n1_; (try clear hb); (try clear hb2); (try clear hk); (try clear hi)))
            go_ret
            exact ⟨by first | rfl | (simp [errW_none, errW_some] <;> rfl) | (simp [*, errW_none, errW_some] <;> rfl), by repeat (first | (with_reducible first | exact HB.out | apply below_alloc | apply pw_below_drewN | apply below_drew1) | exact HB.out)⟩
        · rw [if_neg c13] at H
          have c13b0 : (t139 == 0) = false := beq_eq_false_iff_ne.mpr c13
          have c13b1 : (t139 != 0) = true := bne_iff_ne.mpr c13
          replace H := Option.bind_eq_some_iff.mp H
          obtain ⟨t151, A290, H⟩ := H
          replace H : (some t151) = some r := H
          have A29 := Aside0.mk A290
          clear A290
          obtain rfl := Option.some.inj H
          go_wp2_with (first | ((with_reducible refine gate_callee (f := 11) rfl ?_); refine goesL_ (some 52) rfl rfl Try.func11 (by kernel_rfl) rfl #[] rfl (by (try simp only [List.map_toArray, List.map_cons, List.map_nil]); first | done | rfl | (simp only [List.length_drop, List.length_take]; rfl)) ?_; (with_reducible refine (locklesslaw23_sane.calls kj4  t151 _ A29.out).mono ?_); rintro e w30 ⟨rfl, hb⟩; refine ⟨_, rfl, ?_⟩; have n0_ := Aside0.mk (Kd.R_below (by (with_reducible repeat (first | apply Kd.R_alloc | apply Kd.R_drewN | apply Kd.R_drew)); exact HO_5.out) hb); have n1_ := Aside0.mk (below_step (by repeat (first | (with_reducible first | exact HB.out | apply below_alloc | apply pw_below_drewN | apply below_drew1) | exact HB.out)) hb); clear HO_5; clear HB; have HO_5 := n0_; have HB := n1_; clear n0_ n1_; (try clear hb); (try clear hb2); (try clear hk); (try clear hi)))
          go_ret
          exact ⟨by first | rfl | (simp [errW_none, errW_some] <;> rfl) | (simp [*, errW_none, errW_some] <;> rfl), by repeat (first | (with_reducible first | exact HB.out | apply below_alloc | apply pw_below_drewN | apply below_drew1) | exact HB.out)⟩

/-- THE ONE PURE STATEMENT of locklesslaw23_SchedRounds: yours. -/
def locklesslaw23_SchedRounds.Pure : Prop := ∀ (a0 : Int) (a1 : Int), (Lit.int .i64 a0).wf = true → (Lit.int .i64 a1).wf = true → ∃ k, locklesslaw23_SchedRounds.f k a0 a1 = some true
theorem locklesslaw23_SchedRounds.walk (P : locklesslaw23_SchedRounds.Pure) (a0 : Int) (a1 : Int) (w : World) (w0 : (Lit.int .i64 a0).wf = true) (w1 : (Lit.int .i64 a1).wf = true) :
    Calls Try.prog 4 #[.int .i64 a0, .int .i64 a1] w fun e w' => e = .returned (.bool true) ∧ Below w.heap.size w w' := by
  obtain ⟨k, h⟩ := P a0 a1 w0 w1
  refine (locklesslaw23_SchedRounds.calls k a0 a1 true w h).mono ?_
  rintro e w' ⟨rfl, hd⟩
  exact ⟨rfl, hd⟩

/-! ### locklessref23_Thread: function 41 -/
def locklessref23_Thread.j0 : Nat → Int → Bool → Option (Int)
  | 0, _, _ => none
  | k + 1, x0, x8 => if x8 = true then (some x0) else (if x0 ≥ 10 then (if x0 < 14 then (some (wrap64 (x0 - 10))) else (some (-1))) else (some (-1)))
def locklessref23_Thread.f (k : Nat) (a0 : Int) : Option (Int) := if a0 ≥ 0 then (locklessref23_Thread.j0 k a0 (decide (a0 < 4))) else (locklessref23_Thread.j0 k a0 false)
theorem locklessref23_Thread.mono_l : ∀ k, (∀ y0 y1, LeO (locklessref23_Thread.j0 k y0 y1) (locklessref23_Thread.j0 (k + 1) y0 y1))
  | 0 => fun _ _ r h => by simp [locklessref23_Thread.j0] at h
  | k + 1 => by
    have ih0 := locklessref23_Thread.mono_l k
    · intro y0 y1
      unfold locklessref23_Thread.j0
      repeat' first
      | (with_reducible exact ih0 _ _)
      | (with_reducible exact LeO.refl _)
      | (with_reducible exact LeO.none _)
      | (with_reducible refine LeO.ite ?_ ?_)
      | (with_reducible refine LeO.bind ?_ (fun _ => ?_))
      | exact ih0 _ _
      | exact LeO.none _
      | refine LeO.ite ?_ ?_
      | refine LeO.bind ?_ (fun _ => ?_)
theorem locklessref23_Thread.mono : ∀ a0 k, LeO (locklessref23_Thread.f k a0) (locklessref23_Thread.f (k + 1) a0) := by
  intro a0 k
  have ih0 := locklessref23_Thread.mono_l k
  unfold locklessref23_Thread.f
  repeat' first
      | (with_reducible exact ih0 _ _)
      | (with_reducible exact LeO.refl _)
      | (with_reducible exact LeO.none _)
      | (with_reducible refine LeO.ite ?_ ?_)
      | (with_reducible refine LeO.bind ?_ (fun _ => ?_))
      | exact ih0 _ _
      | exact LeO.none _
      | refine LeO.ite ?_ ?_
      | refine LeO.bind ?_ (fun _ => ?_)
set_option maxHeartbeats 8000000 in
set_option maxRecDepth 100000 in
theorem locklessref23_Thread.calls (k : Nat) (a0 : Int) (r : Int) (w : World) (h : locklessref23_Thread.f k a0 = some r) :
    Calls Try.prog 41 #[.int .i64 a0] w fun e w' => e = .returned (.int .i64 r) ∧ Drawn0 w w' := by
  have H : (if a0 ≥ 0 then (locklessref23_Thread.j0 k a0 (decide (a0 < 4))) else (locklessref23_Thread.j0 k a0 false)) = some r := h
  clear h
  have HC2 := Aside0.mk H
  clear H
  go_enter Try.func41, Try.ntmps41
  go_upto_region 1 with (fail)
  go_cut [8] (fun v8 wc => ∃ (kq : Nat) (x8_1 : Bool), v8 = .bool x8_1 ∧ Aside0 (locklessref23_Thread.j0 kq a0 x8_1 = some r) ∧ Aside0 (kq ≤ k) ∧ Drawn0 w wc)
  case first =>
    have H := HC2.out
    clear HC2
    by_cases c3 : a0 ≥ 0
    · rw [if_pos c3] at H
      have c3b0 : decide (0 ≤ a0) = true := decide_eq_true c3
      clear c3
      (first | rw [c3b0] | (simp only [i64_w, i32_w]; rw [c3b0]) | skip)
      have H' := Aside0.mk H
      clear H
      go_wp2
      go_meet
      case rel => exact ⟨_, (decide (a0 < 4)), (by first | rfl | (simp; done) | (simp [*]; done)), H', ⟨by first | omega | exact Nat.le_refl _⟩, by repeat (first | exact Drawn0.refl _ | apply Drawn0.step)⟩
    · rw [if_neg c3] at H
      have c3b0 : decide (0 ≤ a0) = false := decide_eq_false c3
      clear c3
      (first | rw [c3b0] | (simp only [i64_w, i32_w]; rw [c3b0]) | skip)
      have H' := Aside0.mk H
      clear H
      go_wp2
      go_meet
      case rel => exact ⟨_, (false), (by first | rfl | (simp; done) | (simp [*]; done)), H', ⟨by first | omega | exact Nat.le_refl _⟩, by repeat (first | exact Drawn0.refl _ | apply Drawn0.step)⟩
  case rest =>
    clear HC2
    try clear p2
    try clear c3
    try clear c3b0
    obtain ⟨kq, x8_1, rfl, HA, HJ1, ⟨mc1, rfl⟩⟩ := hcut
    cases kq with
    | zero => exact absurd HA.out (by simp [locklessref23_Thread.j0])
    | succ kj1 =>
      have H := HA.out
      clear HA
      simp only [locklessref23_Thread.j0] at H
      by_cases c4 : x8_1 = true
      · subst c4
        have H1 : (some a0) = some r := by rw [if_pos rfl] at H; exact H
        clear H
        have H := H1
        clear H1
        obtain rfl := Option.some.inj H
        go_wp2
        go_ret
        exact ⟨by first | rfl | (simp; done) | (simp [*]; done), by repeat (first | exact Drawn0.refl _ | apply Drawn0.step)⟩
      · replace c4 := Bool.eq_false_iff.mpr c4
        subst c4
        have H1 : (if a0 ≥ 10 then (if a0 < 14 then (some (wrap64 (a0 - 10))) else (some (-1))) else (some (-1))) = some r := by rw [if_neg (show ¬ (false = true) by decide)] at H; exact H
        clear H
        have H := H1
        clear H1
        by_cases c5 : a0 ≥ 10
        · rw [if_pos c5] at H
          have c5b0 : decide (10 ≤ a0) = true := decide_eq_true c5
          clear c5
          by_cases c6 : a0 < 14
          · rw [if_pos c6] at H
            have c6b0 : decide (a0 < 14) = true := decide_eq_true c6
            clear c6
            obtain rfl := Option.some.inj H
            go_wp2
            go_ret
            exact ⟨by first | rfl | (simp; done) | (simp [*]; done), by repeat (first | exact Drawn0.refl _ | apply Drawn0.step)⟩
          · rw [if_neg c6] at H
            have c6b0 : decide (a0 < 14) = false := decide_eq_false c6
            clear c6
            obtain rfl := Option.some.inj H
            go_wp2
            go_ret
            exact ⟨by first | rfl | (simp; done) | (simp [*]; done), by repeat (first | exact Drawn0.refl _ | apply Drawn0.step)⟩
        · rw [if_neg c5] at H
          have c5b0 : decide (10 ≤ a0) = false := decide_eq_false c5
          clear c5
          obtain rfl := Option.some.inj H
          go_wp2
          go_ret
          exact ⟨by first | rfl | (simp; done) | (simp [*]; done), by repeat (first | exact Drawn0.refl _ | apply Drawn0.step)⟩

/-! ### locklessref23_Valid: function 32 -/
def locklessref23_Valid.l0 : Nat → List Int → Int → Option (Bool)
  | 0, _, _ => none
  | k + 1, x0, x3 => if x3 < (x0.length : Int) then (if 0 ≤ x3 then ((locklessref23_Thread.f k (rd x0 x3)).bind fun t153 => (if t153 < 0 then (some false) else (locklessref23_Valid.l0 k x0 (wrap64 (x3 + 1))))) else (none)) else (some (decide ((x0.length : Int) ≤ 600)))
def locklessref23_Valid.f (k : Nat) (l0 : List Int) : Option (Bool) := locklessref23_Valid.l0 k l0 0
theorem locklessref23_Valid.mono_l : ∀ k, (∀ y0 y1, LeO (locklessref23_Valid.l0 k y0 y1) (locklessref23_Valid.l0 (k + 1) y0 y1))
  | 0 => fun _ _ r h => by simp [locklessref23_Valid.l0] at h
  | k + 1 => by
    have ih0 := locklessref23_Valid.mono_l k
    · intro y0 y1
      unfold locklessref23_Valid.l0
      repeat' first
      | (with_reducible exact ih0 _ _)
      | (with_reducible exact locklessref23_Thread.mono _ _)
      | (with_reducible exact LeO.refl _)
      | (with_reducible exact LeO.none _)
      | (with_reducible refine LeO.ite ?_ ?_)
      | (with_reducible refine LeO.bind ?_ (fun _ => ?_))
      | exact ih0 _ _
      | exact locklessref23_Thread.mono _ _
      | exact LeO.none _
      | refine LeO.ite ?_ ?_
      | refine LeO.bind ?_ (fun _ => ?_)
theorem locklessref23_Valid.mono : ∀ a0 k, LeO (locklessref23_Valid.f k a0) (locklessref23_Valid.f (k + 1) a0) := by
  intro a0 k
  have ih0 := locklessref23_Valid.mono_l k
  unfold locklessref23_Valid.f
  repeat' first
      | (with_reducible exact ih0 _ _)
      | (with_reducible exact locklessref23_Thread.mono _ _)
      | (with_reducible exact LeO.refl _)
      | (with_reducible exact LeO.none _)
      | (with_reducible refine LeO.ite ?_ ?_)
      | (with_reducible refine LeO.bind ?_ (fun _ => ?_))
      | exact ih0 _ _
      | exact locklessref23_Thread.mono _ _
      | exact LeO.none _
      | refine LeO.ite ?_ ?_
      | refine LeO.bind ?_ (fun _ => ?_)
set_option maxHeartbeats 8000000 in
set_option maxRecDepth 100000 in
theorem locklessref23_Valid.calls (k : Nat) (A0 : Option Addr) (c0 : Nat) (l0 : List Int) (r : Bool) (w : World) (hr0 : Kd.C (Kd.int .i64) w A0 l0.length l0) (hc0 : l0.length ≤ c0) (h : locklessref23_Valid.f k l0 = some r) :
    Calls Try.prog 32 #[.slice A0 l0.length c0] w fun e w' => e = .returned (.bool r) ∧ Drawn0 w w' := by
  have HR0 := Aside0.mk hr0
  have HC0 := Aside0.mk hc0
  clear hr0 hc0
  have H : (locklessref23_Valid.l0 k l0 0) = some r := h
  clear h
  have H' := Aside0.mk H
  clear H
  go_enter Try.func32, Try.ntmps32
  go_wp2
  go_loopg [3] k (fun kq v3 w' => ∃ (x3_1 : Int), v3 = .int .i64 x3_1 ∧ Aside0 (locklessref23_Valid.l0 kq l0 x3_1 = some r) ∧ Aside0 (kq ≤ k) ∧ Drawn0 w w')
  case atStart => exact ⟨(0), (by first | rfl | (simp; done) | (simp [*]; done)), H', ⟨Nat.le_refl _⟩, by repeat (first | exact Drawn0.refl _ | apply Drawn0.step)⟩
  case round =>
    clear H'
    obtain ⟨x3_1, rfl, HA, HK1, ⟨m1, rfl⟩⟩ := hrel
    cases gk with
    | zero => exact absurd HA.out (by simp [locklessref23_Valid.l0])
    | succ k1 =>
      have H := HA.out
      clear HA
      simp only [locklessref23_Valid.l0] at H
      by_cases c2 : x3_1 < (l0.length : Int)
      · rw [if_pos c2] at H
        have c2b0 : decide (x3_1 < (l0.length : Int)) = true := decide_eq_true c2
        clear c2
        by_cases c3 : 0 ≤ x3_1
        · rw [if_pos c3] at H
          have c3b0 : decide (0 ≤ x3_1) = true := decide_eq_true c3
          clear c3
          replace H := Option.bind_eq_some_iff.mp H
          obtain ⟨t153, A40, H⟩ := H
          replace H : (if t153 < 0 then (some false) else (locklessref23_Valid.l0 k1 l0 (wrap64 (x3_1 + 1)))) = some r := H
          have A4 := Aside0.mk A40
          clear A40
          by_cases c5 : t153 < 0
          · rw [if_pos c5] at H
            have c5b0 : decide (t153 < 0) = true := decide_eq_true c5
            clear c5
            obtain rfl := Option.some.inj H
            have p152 : 0 ≤ (x3_1 : Int) := of_decide_eq_true (by first | (with_reducible assumption) | assumption)
            have q152 : x3_1 < (l0.length : Int) := of_decide_eq_true (by first | (with_reducible assumption) | assumption)
            obtain ⟨ad152, e152, hx152_0⟩ := Kd.at_int HR0.out x3_1 p152 q152
            cases e152
            replace p152 := eq_true p152
            replace q152 := eq_true q152
            go_wp2_with (first | ((with_reducible refine gate_callee (f := 41) rfl ?_); refine goesL_ (some 14) rfl rfl Try.func41 (by kernel_rfl) rfl #[.int .i64 (rd l0 x3_1)] rfl (by (try simp only [List.map_toArray, List.map_cons, List.map_nil]); first | done | rfl | (simp only [List.length_drop, List.length_take]; rfl)) ?_; (with_reducible refine (locklessref23_Thread.calls k1 (rd l0 x3_1) t153 _ A4.out).mono ?_); rintro e w' ⟨rfl, ⟨nd, rfl⟩⟩; refine ⟨_, rfl, ?_⟩))
            go_ret
            exact ⟨by first | rfl | (simp; done) | (simp [*]; done), by repeat (first | exact Drawn0.refl _ | apply Drawn0.step)⟩
          · rw [if_neg c5] at H
            have c5b0 : decide (t153 < 0) = false := decide_eq_false c5
            clear c5
            have H' := Aside0.mk H
            clear H
            have p152 : 0 ≤ (x3_1 : Int) := of_decide_eq_true (by first | (with_reducible assumption) | assumption)
            have q152 : x3_1 < (l0.length : Int) := of_decide_eq_true (by first | (with_reducible assumption) | assumption)
            obtain ⟨ad152, e152, hx152_0⟩ := Kd.at_int HR0.out x3_1 p152 q152
            cases e152
            replace p152 := eq_true p152
            replace q152 := eq_true q152
            go_wp2_with (first | ((with_reducible refine gate_callee (f := 41) rfl ?_); refine goesL_ (some 14) rfl rfl Try.func41 (by kernel_rfl) rfl #[.int .i64 (rd l0 x3_1)] rfl (by (try simp only [List.map_toArray, List.map_cons, List.map_nil]); first | done | rfl | (simp only [List.length_drop, List.length_take]; rfl)) ?_; (with_reducible refine (locklessref23_Thread.calls k1 (rd l0 x3_1) t153 _ A4.out).mono ?_); rintro e w' ⟨rfl, ⟨nd, rfl⟩⟩; refine ⟨_, rfl, ?_⟩))
            go_roundg k1
            case measure => have := HK1.out; omega
            case rel => exact ⟨(wrap64 (x3_1 + 1)), (by first | rfl | (simp; done) | (simp [*]; done)), H', ⟨by have := HK1.out; omega⟩, by repeat (first | exact Drawn0.refl _ | apply Drawn0.step)⟩
        · rw [if_neg c3] at H
          exact absurd H (by simp)
      · rw [if_neg c2] at H
        have c2b0 : decide (x3_1 < (l0.length : Int)) = false := decide_eq_false c2
        clear c2
        obtain rfl := Option.some.inj H
        go_wp2
        go_ret
        exact ⟨by first | rfl | (simp; done) | (simp [*]; done), by repeat (first | exact Drawn0.refl _ | apply Drawn0.step)⟩

/-! ### locklessref23_isThread: function 39 -/
def locklessref23_isThread.f (a0 : Int) : Option (Bool) := if a0 ≥ 0 then (some (decide (a0 < 4))) else (some false)
set_option maxHeartbeats 8000000 in
set_option maxRecDepth 100000 in
theorem locklessref23_isThread.calls (a0 : Int) (r : Bool) (w : World) (h : locklessref23_isThread.f a0 = some r) :
    Calls Try.prog 39 #[.int .i64 a0] w fun e w' => e = .returned (.bool r) ∧ Drawn0 w w' := by
  have H : (if a0 ≥ 0 then (some (decide (a0 < 4))) else (some false)) = some r := h
  clear h
  by_cases c2 : a0 ≥ 0
  · rw [if_pos c2] at H
    have c2b0 : decide (0 ≤ a0) = true := decide_eq_true c2
    clear c2
    obtain rfl := Option.some.inj H
    go_enter Try.func39, Try.ntmps39
    go_wp2
    go_ret
    exact ⟨by first | rfl | (simp; done) | (simp [*]; done), by repeat (first | exact Drawn0.refl _ | apply Drawn0.step)⟩
  · rw [if_neg c2] at H
    have c2b0 : decide (0 ≤ a0) = false := decide_eq_false c2
    clear c2
    obtain rfl := Option.some.inj H
    go_enter Try.func39, Try.ntmps39
    go_wp2
    go_ret
    exact ⟨by first | rfl | (simp; done) | (simp [*]; done), by repeat (first | exact Drawn0.refl _ | apply Drawn0.step)⟩

end Go.Proofs.Ytefhhaccoeljmaa.XS
