-- PRINTED BY print.sh 35421559b90ae4d0a3588c463048766b98c2df88dd9212a6774a882060cdf62d: not written by this session
import Derived.Test.YtjiblcngjfbcmaaPOrderWeakerx0
import Derived.Test.YtjiblcngjfbcmaaPOrderWeakerx1
import Derived.Test.YtjiblcngjfbcmaaPOrderWeakerx2
import Derived.Test.YtjiblcngjfbcmaaPOrderWeakerx3
namespace Go.Proofs.Ytjiblcngjfbcmaa.POrderWeaker
open Go.RowKit Go.Proofs.YtjiblcngjfbcmaaW.PrintWords Go.Proofs.YtjiblcngjfbcmaaW.PrintLast Go.Proofs.YtjiblcngjfbcmaaW.PrintMore
attribute [local go_sem] max2_int min2_int max_two min_two max_three min_three max_four min_four   -- for this text's walks alone
set_option linter.unusedVariables false
set_option linter.unusedSimpArgs false

/-! ### locklesslaw02_OrderWeaker: function 11 -/
mutual
def locklesslaw02_OrderWeaker.l0 : Nat → Int → Int → Int → Int → Int → Option (Bool)
  | 0, _, _, _, _, _ => none
  | k + 1, x0, x1, x5, x6, x7 => if x7 < 2 then ((order_Weaker.f k x5 x6).bind fun bt154 => ((order_Plain.f k x5 x6).bind fun bt158 => ((locklessref02_Kind.f x5).bind fun t160 => (if t160 = true then ((locklessref02_Is.f x6).bind fun t161 => (if t161 = true then ((locklessref02_May.f x5 x6).bind fun t162 => (locklesslaw02_OrderWeaker.j1 k x0 x1 x5 x6 x7 bt154.1 bt154.2 bt158.1 bt158.2 (!t162))) else (locklesslaw02_OrderWeaker.j1 k x0 x1 x5 x6 x7 bt154.1 bt154.2 bt158.1 bt158.2 true))) else (locklesslaw02_OrderWeaker.j1 k x0 x1 x5 x6 x7 bt154.1 bt154.2 bt158.1 bt158.2 true))))) else (some true)
def locklesslaw02_OrderWeaker.j1 : Nat → Int → Int → Int → Int → Int → List Int → Int → Int → Int → Bool → Option (Bool)
  | 0, _, _, _, _, _, _, _, _, _, _ => none
  | k + 1, x0, x1, x5, x6, x7, x8, x9, x10, x11, x47 => if x47 = true then (if (x8.length : Int) = 0 then (if x10 = 0 then (if x9 = 1 then (if x11 = 1 then (locklesslaw02_OrderWeaker.l0 k x0 x1 x0 x1 (wrap64 (x7 + 1))) else (some false)) else (some false)) else (some false)) else (some false)) else ((locklessref02_Weaker.f k x5 x6).bind fun t163 => ((locklesslaw02_same.f k x8 t163).bind fun t166 => (if t166 = true then (locklesslaw02_OrderWeaker.j2 k x0 x1 x5 x6 x7 x10 x11 (x9 != 0)) else (locklesslaw02_OrderWeaker.j2 k x0 x1 x5 x6 x7 x10 x11 true))))
def locklesslaw02_OrderWeaker.j2 : Nat → Int → Int → Int → Int → Int → Int → Int → Bool → Option (Bool)
  | 0, _, _, _, _, _, _, _, _ => none
  | k + 1, x0, x1, x5, x6, x7, x10, x11, x72 => if x72 = true then (some false) else (if x5 = 5 then (if x10 = 0 then (if x11 = 1 then (locklesslaw02_OrderWeaker.l0 k x0 x1 x0 x1 (wrap64 (x7 + 1))) else (some false)) else (some false)) else ((locklessref02_Plain.f x5 x6).bind fun t167 => (if x10 = t167 then (if x11 = 0 then (locklesslaw02_OrderWeaker.l0 k x0 x1 x0 x1 (wrap64 (x7 + 1))) else (some false)) else (some false))))
end
def locklesslaw02_OrderWeaker.f (k : Nat) (a0 : Int) (a1 : Int) : Option (Bool) := (locklesslaw02_awake.f k).bind fun t151 => (if t151 = true then ((locklesslaw02_one.f a0 5).bind fun t152 => ((locklesslaw02_one.f a1 4).bind fun t153 => (locklesslaw02_OrderWeaker.l0 k a0 a1 t152 t153 0))) else (some false))
theorem locklesslaw02_OrderWeaker.mono_l : ∀ k, (∀ y0 y1 y2 y3 y4, LeO (locklesslaw02_OrderWeaker.l0 k y0 y1 y2 y3 y4) (locklesslaw02_OrderWeaker.l0 (k + 1) y0 y1 y2 y3 y4)) ∧ (∀ y0 y1 y2 y3 y4 y5 y6 y7 y8 y9, LeO (locklesslaw02_OrderWeaker.j1 k y0 y1 y2 y3 y4 y5 y6 y7 y8 y9) (locklesslaw02_OrderWeaker.j1 (k + 1) y0 y1 y2 y3 y4 y5 y6 y7 y8 y9)) ∧ (∀ y0 y1 y2 y3 y4 y5 y6 y7, LeO (locklesslaw02_OrderWeaker.j2 k y0 y1 y2 y3 y4 y5 y6 y7) (locklesslaw02_OrderWeaker.j2 (k + 1) y0 y1 y2 y3 y4 y5 y6 y7))
  | 0 => ⟨fun _ _ _ _ _ r h => by simp [locklesslaw02_OrderWeaker.l0] at h, fun _ _ _ _ _ _ _ _ _ _ r h => by simp [locklesslaw02_OrderWeaker.j1] at h, fun _ _ _ _ _ _ _ _ r h => by simp [locklesslaw02_OrderWeaker.j2] at h⟩
  | k + 1 => by
    obtain ⟨ih0, ih1, ih2⟩ := locklesslaw02_OrderWeaker.mono_l k
    refine ⟨?_, ?_, ?_⟩
    · intro y0 y1 y2 y3 y4
      unfold locklesslaw02_OrderWeaker.l0
      repeat' first
      | (with_reducible exact ih0 _ _ _ _ _)
      | (with_reducible exact ih1 _ _ _ _ _ _ _ _ _ _)
      | (with_reducible exact ih2 _ _ _ _ _ _ _ _)
      | (with_reducible exact locklesslaw02_awake.mono _)
      | (with_reducible exact locklesslaw02_same.mono _ _ _)
      | (with_reducible exact locklessref02_Weaker.mono _ _ _)
      | (with_reducible exact order_Plain.mono _ _ _)
      | (with_reducible exact order_Weaker.mono _ _ _)
      | (with_reducible exact LeO.refl _)
      | (with_reducible exact LeO.none _)
      | (with_reducible refine LeO.ite ?_ ?_)
      | (with_reducible refine LeO.bind ?_ (fun _ => ?_))
      | exact ih0 _ _ _ _ _
      | exact ih1 _ _ _ _ _ _ _ _ _ _
      | exact ih2 _ _ _ _ _ _ _ _
      | exact locklesslaw02_awake.mono _
      | exact locklesslaw02_same.mono _ _ _
      | exact locklessref02_Weaker.mono _ _ _
      | exact order_Plain.mono _ _ _
      | exact order_Weaker.mono _ _ _
      | exact LeO.none _
      | refine LeO.ite ?_ ?_
      | refine LeO.bind ?_ (fun _ => ?_)
    · intro y0 y1 y2 y3 y4 y5 y6 y7 y8 y9
      unfold locklesslaw02_OrderWeaker.j1
      repeat' first
      | (with_reducible exact ih0 _ _ _ _ _)
      | (with_reducible exact ih1 _ _ _ _ _ _ _ _ _ _)
      | (with_reducible exact ih2 _ _ _ _ _ _ _ _)
      | (with_reducible exact locklesslaw02_awake.mono _)
      | (with_reducible exact locklesslaw02_same.mono _ _ _)
      | (with_reducible exact locklessref02_Weaker.mono _ _ _)
      | (with_reducible exact order_Plain.mono _ _ _)
      | (with_reducible exact order_Weaker.mono _ _ _)
      | (with_reducible exact LeO.refl _)
      | (with_reducible exact LeO.none _)
      | (with_reducible refine LeO.ite ?_ ?_)
      | (with_reducible refine LeO.bind ?_ (fun _ => ?_))
      | exact ih0 _ _ _ _ _
      | exact ih1 _ _ _ _ _ _ _ _ _ _
      | exact ih2 _ _ _ _ _ _ _ _
      | exact locklesslaw02_awake.mono _
      | exact locklesslaw02_same.mono _ _ _
      | exact locklessref02_Weaker.mono _ _ _
      | exact order_Plain.mono _ _ _
      | exact order_Weaker.mono _ _ _
      | exact LeO.none _
      | refine LeO.ite ?_ ?_
      | refine LeO.bind ?_ (fun _ => ?_)
    · intro y0 y1 y2 y3 y4 y5 y6 y7
      unfold locklesslaw02_OrderWeaker.j2
      repeat' first
      | (with_reducible exact ih0 _ _ _ _ _)
      | (with_reducible exact ih1 _ _ _ _ _ _ _ _ _ _)
      | (with_reducible exact ih2 _ _ _ _ _ _ _ _)
      | (with_reducible exact locklesslaw02_awake.mono _)
      | (with_reducible exact locklesslaw02_same.mono _ _ _)
      | (with_reducible exact locklessref02_Weaker.mono _ _ _)
      | (with_reducible exact order_Plain.mono _ _ _)
      | (with_reducible exact order_Weaker.mono _ _ _)
      | (with_reducible exact LeO.refl _)
      | (with_reducible exact LeO.none _)
      | (with_reducible refine LeO.ite ?_ ?_)
      | (with_reducible refine LeO.bind ?_ (fun _ => ?_))
      | exact ih0 _ _ _ _ _
      | exact ih1 _ _ _ _ _ _ _ _ _ _
      | exact ih2 _ _ _ _ _ _ _ _
      | exact locklesslaw02_awake.mono _
      | exact locklesslaw02_same.mono _ _ _
      | exact locklessref02_Weaker.mono _ _ _
      | exact order_Plain.mono _ _ _
      | exact order_Weaker.mono _ _ _
      | exact LeO.none _
      | refine LeO.ite ?_ ?_
      | refine LeO.bind ?_ (fun _ => ?_)
theorem locklesslaw02_OrderWeaker.mono : ∀ a0 a1 k, LeO (locklesslaw02_OrderWeaker.f k a0 a1) (locklesslaw02_OrderWeaker.f (k + 1) a0 a1) := by
  intro a0 a1 k
  obtain ⟨ih0, ih1, ih2⟩ := locklesslaw02_OrderWeaker.mono_l k
  unfold locklesslaw02_OrderWeaker.f
  repeat' first
      | (with_reducible exact ih0 _ _ _ _ _)
      | (with_reducible exact ih1 _ _ _ _ _ _ _ _ _ _)
      | (with_reducible exact ih2 _ _ _ _ _ _ _ _)
      | (with_reducible exact locklesslaw02_awake.mono _)
      | (with_reducible exact locklesslaw02_same.mono _ _ _)
      | (with_reducible exact locklessref02_Weaker.mono _ _ _)
      | (with_reducible exact order_Plain.mono _ _ _)
      | (with_reducible exact order_Weaker.mono _ _ _)
      | (with_reducible exact LeO.refl _)
      | (with_reducible exact LeO.none _)
      | (with_reducible refine LeO.ite ?_ ?_)
      | (with_reducible refine LeO.bind ?_ (fun _ => ?_))
      | exact ih0 _ _ _ _ _
      | exact ih1 _ _ _ _ _ _ _ _ _ _
      | exact ih2 _ _ _ _ _ _ _ _
      | exact locklesslaw02_awake.mono _
      | exact locklesslaw02_same.mono _ _ _
      | exact locklessref02_Weaker.mono _ _ _
      | exact order_Plain.mono _ _ _
      | exact order_Weaker.mono _ _ _
      | exact LeO.none _
      | refine LeO.ite ?_ ?_
      | refine LeO.bind ?_ (fun _ => ?_)
set_option maxHeartbeats 8000000 in
set_option maxRecDepth 100000 in
theorem locklesslaw02_OrderWeaker.calls (k : Nat) (a0 : Int) (a1 : Int) (r : Bool) (w : World) (h : locklesslaw02_OrderWeaker.f k a0 a1 = some r) :
    Calls Try.prog 11 #[.int .i64 a0, .int .i64 a1] w fun e w' => e = .returned (.bool r) ∧ Below w.heap.size w w' := by
  have HB := Aside0.mk (Below.refl w.heap.size w)
  have H : ((locklesslaw02_awake.f k).bind fun t151 => (if t151 = true then ((locklesslaw02_one.f a0 5).bind fun t152 => ((locklesslaw02_one.f a1 4).bind fun t153 => (locklesslaw02_OrderWeaker.l0 k a0 a1 t152 t153 0))) else (some false))) = some r := h
  clear h
  replace H := Option.bind_eq_some_iff.mp H
  obtain ⟨t151, A30, H⟩ := H
  replace H : (if t151 = true then ((locklesslaw02_one.f a0 5).bind fun t152 => ((locklesslaw02_one.f a1 4).bind fun t153 => (locklesslaw02_OrderWeaker.l0 k a0 a1 t152 t153 0))) else (some false)) = some r := H
  have A3 := Aside0.mk A30
  clear A30
  by_cases c4 : t151 = true
  · subst c4
    have H1 : ((locklesslaw02_one.f a0 5).bind fun t152 => ((locklesslaw02_one.f a1 4).bind fun t153 => (locklesslaw02_OrderWeaker.l0 k a0 a1 t152 t153 0))) = some r := by rw [if_pos rfl] at H; exact H
    clear H
    have H := H1
    clear H1
    replace H := Option.bind_eq_some_iff.mp H
    obtain ⟨t152, A50, H⟩ := H
    replace H : ((locklesslaw02_one.f a1 4).bind fun t153 => (locklesslaw02_OrderWeaker.l0 k a0 a1 t152 t153 0)) = some r := H
    have A5 := Aside0.mk A50
    clear A50
    replace H := Option.bind_eq_some_iff.mp H
    obtain ⟨t153, A60, H⟩ := H
    replace H : (locklesslaw02_OrderWeaker.l0 k a0 a1 t152 t153 0) = some r := H
    have A6 := Aside0.mk A60
    clear A60
    have H' := Aside0.mk H
    clear H
    go_enter Try.func11, Try.ntmps11
    go_wp2_with (first | ((with_reducible refine gate_callee (f := 12) rfl ?_); refine goesL_ (some 12) rfl rfl Try.func12 (by kernel_rfl) rfl #[] rfl (by (try simp only [List.map_toArray, List.map_cons, List.map_nil]); first | done | rfl | (simp only [List.length_drop, List.length_take]; rfl)) ?_; (with_reducible refine (locklesslaw02_awake.calls k  true _ A3.out).mono ?_); rintro e w7 ⟨rfl, hb⟩; refine ⟨_, rfl, ?_⟩; have n0_ := Aside0.mk (below_step (by repeat (first | (with_reducible first | exact HB.out | apply below_alloc | apply pw_below_drewN | apply below_drew1) | exact HB.out)) hb); clear HB; have HB := n0_; clear n0_; (try clear hb); (try clear hb2); (try clear hk); (try clear hi)) | ((with_reducible refine gate_callee (f := 13) rfl ?_); refine goesL_ (some 15) rfl rfl Try.func13 (by kernel_rfl) rfl #[.int .i64 a0, .int .i64 5] rfl (by (try simp only [List.map_toArray, List.map_cons, List.map_nil]); first | done | rfl | (simp only [List.length_drop, List.length_take]; rfl)) ?_; (with_reducible refine (locklesslaw02_one.calls a0 5 t152 _ A5.out).mono ?_); rintro e w' ⟨rfl, ⟨nd, rfl⟩⟩; refine ⟨_, rfl, ?_⟩) | ((with_reducible refine gate_callee (f := 13) rfl ?_); refine goesL_ (some 17) rfl rfl Try.func13 (by kernel_rfl) rfl #[.int .i64 a1, .int .i64 4] rfl (by (try simp only [List.map_toArray, List.map_cons, List.map_nil]); first | done | rfl | (simp only [List.length_drop, List.length_take]; rfl)) ?_; (with_reducible refine (locklesslaw02_one.calls a1 4 t153 _ A6.out).mono ?_); rintro e w' ⟨rfl, ⟨nd, rfl⟩⟩; refine ⟨_, rfl, ?_⟩))
    go_loopg [5, 6, 7] k (fun kq v5 v6 v7 w' => ∃ (x5_1 : Int) (x6_1 : Int) (x7_1 : Int), v5 = .int .i64 x5_1 ∧ v6 = .int .i64 x6_1 ∧ v7 = .int .i64 x7_1 ∧ Aside0 (locklesslaw02_OrderWeaker.l0 kq a0 a1 x5_1 x6_1 x7_1 = some r) ∧ Aside0 (kq ≤ k) ∧ Aside0 (Below w.heap.size w w'))
    case atStart => exact ⟨(t152), (t153), (0), (by first | rfl | (simp; done) | (simp [*]; done)), (by first | rfl | (simp; done) | (simp [*]; done)), (by first | rfl | (simp; done) | (simp [*]; done)), H', ⟨Nat.le_refl _⟩, ⟨by repeat (first | (with_reducible first | exact HB.out | apply below_alloc | apply pw_below_drewN | apply below_drew1) | exact HB.out)⟩⟩
    case round =>
      clear H'
      try clear c1
      try clear p2
      try clear c4
      obtain ⟨x5_1, x6_1, x7_1, rfl, rfl, rfl, HA, HK1, HB⟩ := hrel
      cases gk with
      | zero => exact absurd HA.out (by simp [locklesslaw02_OrderWeaker.l0])
      | succ k1 =>
        have H := HA.out
        clear HA
        simp only [locklesslaw02_OrderWeaker.l0] at H
        by_cases c8 : x7_1 < 2
        · rw [if_pos c8] at H
          have c8b0 : decide (x7_1 < 2) = true := decide_eq_true c8
          clear c8
          replace H := Option.bind_eq_some_iff.mp H
          obtain ⟨⟨t154, t155⟩, A90, H⟩ := H
          replace H : ((order_Plain.f k1 x5_1 x6_1).bind fun bt158 => ((locklessref02_Kind.f x5_1).bind fun t160 => (if t160 = true then ((locklessref02_Is.f x6_1).bind fun t161 => (if t161 = true then ((locklessref02_May.f x5_1 x6_1).bind fun t162 => (locklesslaw02_OrderWeaker.j1 k1 a0 a1 x5_1 x6_1 x7_1 t154 t155 bt158.1 bt158.2 (!t162))) else (locklesslaw02_OrderWeaker.j1 k1 a0 a1 x5_1 x6_1 x7_1 t154 t155 bt158.1 bt158.2 true))) else (locklesslaw02_OrderWeaker.j1 k1 a0 a1 x5_1 x6_1 x7_1 t154 t155 bt158.1 bt158.2 true)))) = some r := H
          have A9 := Aside0.mk A90
          clear A90
          replace H := Option.bind_eq_some_iff.mp H
          obtain ⟨⟨t158, t159⟩, A100, H⟩ := H
          replace H : ((locklessref02_Kind.f x5_1).bind fun t160 => (if t160 = true then ((locklessref02_Is.f x6_1).bind fun t161 => (if t161 = true then ((locklessref02_May.f x5_1 x6_1).bind fun t162 => (locklesslaw02_OrderWeaker.j1 k1 a0 a1 x5_1 x6_1 x7_1 t154 t155 t158 t159 (!t162))) else (locklesslaw02_OrderWeaker.j1 k1 a0 a1 x5_1 x6_1 x7_1 t154 t155 t158 t159 true))) else (locklesslaw02_OrderWeaker.j1 k1 a0 a1 x5_1 x6_1 x7_1 t154 t155 t158 t159 true))) = some r := H
          have A10 := Aside0.mk A100
          clear A100
          have HC11 := Aside0.mk H
          clear H
          go_upto_region 9 with (first | ((with_reducible refine gate_callee (f := 35) rfl ?_); refine goesL_ (some 25) rfl rfl Try.func35 (by kernel_rfl) rfl #[.int .i64 x5_1, .int .i64 x6_1] rfl (by (try simp only [List.map_toArray, List.map_cons, List.map_nil]); first | done | rfl | (simp only [List.length_drop, List.length_take]; rfl)) ?_; (with_reducible refine (order_Weaker.calls k1 x5_1 x6_1 t154 t155 _ A9.out).mono ?_); rintro e w12 ⟨v156, rfl, ho0, hb⟩; refine ⟨_, rfl, ?_⟩; have n0_ := Aside0.mk (Kd.R_lower ho0 (below_size (by repeat (first | (with_reducible first | exact HB.out | apply below_alloc | apply pw_below_drewN | apply below_drew1) | exact HB.out)))); have n1_ := Aside0.mk (below_step (by repeat (first | (with_reducible first | exact HB.out | apply below_alloc | apply pw_below_drewN | apply below_drew1) | exact HB.out)) hb); clear HB; have HO157 := n0_; have HB := n1_; clear n0_ n1_; (try clear hb); (try clear hb2); (try clear hk); (try clear hi); (try clear ho0)) | ((with_reducible refine gate_callee (f := 36) rfl ?_); refine goesL_ (some 31) rfl rfl Try.func36 (by kernel_rfl) rfl #[.int .i64 x5_1, .int .i64 x6_1] rfl (by (try simp only [List.map_toArray, List.map_cons, List.map_nil]); first | done | rfl | (simp only [List.length_drop, List.length_take]; rfl)) ?_; (with_reducible refine (order_Plain.calls k1 x5_1 x6_1 t158 t159 _ A10.out).mono ?_); rintro e w' ⟨rfl, ⟨nd, rfl⟩⟩; refine ⟨_, rfl, ?_⟩))
          (try simp only [Act.put, List.setIfInBounds_toArray, List.set_cons_zero, List.set_cons_succ])
          go_cut [47] (fun v47 wc => ∃ (kq : Nat) (x47_10 : Bool), v47 = .bool x47_10 ∧ Aside0 (locklesslaw02_OrderWeaker.j1 kq a0 a1 x5_1 x6_1 x7_1 t154 t155 t158 t159 x47_10 = some r) ∧ Aside0 (kq ≤ k1) ∧ Aside0 (Kd.R (Kd.int .i64) 3 wc w.heap.size (fun _ => True) v156 t154) ∧ Aside0 (Below w.heap.size w wc))
          case first =>
            have H := HC11.out
            clear HC11
            replace H := Option.bind_eq_some_iff.mp H
            obtain ⟨t160, A130, H⟩ := H
            replace H : (if t160 = true then ((locklessref02_Is.f x6_1).bind fun t161 => (if t161 = true then ((locklessref02_May.f x5_1 x6_1).bind fun t162 => (locklesslaw02_OrderWeaker.j1 k1 a0 a1 x5_1 x6_1 x7_1 t154 t155 t158 t159 (!t162))) else (locklesslaw02_OrderWeaker.j1 k1 a0 a1 x5_1 x6_1 x7_1 t154 t155 t158 t159 true))) else (locklesslaw02_OrderWeaker.j1 k1 a0 a1 x5_1 x6_1 x7_1 t154 t155 t158 t159 true)) = some r := H
            have A13 := Aside0.mk A130
            clear A130
            by_cases c14 : t160 = true
            · subst c14
              have H1 : ((locklessref02_Is.f x6_1).bind fun t161 => (if t161 = true then ((locklessref02_May.f x5_1 x6_1).bind fun t162 => (locklesslaw02_OrderWeaker.j1 k1 a0 a1 x5_1 x6_1 x7_1 t154 t155 t158 t159 (!t162))) else (locklesslaw02_OrderWeaker.j1 k1 a0 a1 x5_1 x6_1 x7_1 t154 t155 t158 t159 true))) = some r := by rw [if_pos rfl] at H; exact H
              clear H
              have H := H1
              clear H1
              replace H := Option.bind_eq_some_iff.mp H
              obtain ⟨t161, A150, H⟩ := H
              replace H : (if t161 = true then ((locklessref02_May.f x5_1 x6_1).bind fun t162 => (locklesslaw02_OrderWeaker.j1 k1 a0 a1 x5_1 x6_1 x7_1 t154 t155 t158 t159 (!t162))) else (locklesslaw02_OrderWeaker.j1 k1 a0 a1 x5_1 x6_1 x7_1 t154 t155 t158 t159 true)) = some r := H
              have A15 := Aside0.mk A150
              clear A150
              by_cases c16 : t161 = true
              · subst c16
                have H1 : ((locklessref02_May.f x5_1 x6_1).bind fun t162 => (locklesslaw02_OrderWeaker.j1 k1 a0 a1 x5_1 x6_1 x7_1 t154 t155 t158 t159 (!t162))) = some r := by rw [if_pos rfl] at H; exact H
                clear H
                have H := H1
                clear H1
                replace H := Option.bind_eq_some_iff.mp H
                obtain ⟨t162, A170, H⟩ := H
                replace H : (locklesslaw02_OrderWeaker.j1 k1 a0 a1 x5_1 x6_1 x7_1 t154 t155 t158 t159 (!t162)) = some r := H
                have A17 := Aside0.mk A170
                clear A170
                have H' := Aside0.mk H
                clear H
                go_wp2_with (first | ((with_reducible refine gate_callee (f := 16) rfl ?_); refine goesL_ (some 35) rfl rfl Try.func16 (by kernel_rfl) rfl #[.int .i64 x5_1] rfl (by (try simp only [List.map_toArray, List.map_cons, List.map_nil]); first | done | rfl | (simp only [List.length_drop, List.length_take]; rfl)) ?_; (with_reducible refine (locklessref02_Kind.calls x5_1 true _ A13.out).mono ?_); rintro e w' ⟨rfl, ⟨nd, rfl⟩⟩; refine ⟨_, rfl, ?_⟩) | (go_at_call 19; (with_reducible refine (locklessref02_Is.calls x6_1 true _ A15.out).mono ?_); rintro e w' ⟨rfl, ⟨nd, rfl⟩⟩) | (go_at_call 20; (with_reducible refine (locklessref02_May.calls x5_1 x6_1 t162 _ A17.out).mono ?_); rintro e w' ⟨rfl, ⟨nd, rfl⟩⟩))
                go_meet
                case rel => exact ⟨_, (!t162), (by first | rfl | (simp; done) | (simp [*]; done)), H', ⟨by have := HK1.out; first | omega | exact Nat.le_refl _⟩, ⟨by (with_reducible repeat (first | apply Kd.R_alloc | apply Kd.R_drewN | apply Kd.R_drew)); exact HO157.out⟩, ⟨by repeat (first | (with_reducible first | exact HB.out | apply below_alloc | apply pw_below_drewN | apply below_drew1) | exact HB.out)⟩⟩
              · replace c16 := Bool.eq_false_iff.mpr c16
                subst c16
                have H1 : (locklesslaw02_OrderWeaker.j1 k1 a0 a1 x5_1 x6_1 x7_1 t154 t155 t158 t159 true) = some r := by rw [if_neg (show ¬ (false = true) by decide)] at H; exact H
                clear H
                have H := H1
                clear H1
                have H' := Aside0.mk H
                clear H
                go_wp2_with (first | ((with_reducible refine gate_callee (f := 16) rfl ?_); refine goesL_ (some 35) rfl rfl Try.func16 (by kernel_rfl) rfl #[.int .i64 x5_1] rfl (by (try simp only [List.map_toArray, List.map_cons, List.map_nil]); first | done | rfl | (simp only [List.length_drop, List.length_take]; rfl)) ?_; (with_reducible refine (locklessref02_Kind.calls x5_1 true _ A13.out).mono ?_); rintro e w' ⟨rfl, ⟨nd, rfl⟩⟩; refine ⟨_, rfl, ?_⟩) | (go_at_call 19; (with_reducible refine (locklessref02_Is.calls x6_1 false _ A15.out).mono ?_); rintro e w' ⟨rfl, ⟨nd, rfl⟩⟩))
                go_meet
                case rel => exact ⟨_, (true), (by first | rfl | (simp; done) | (simp [*]; done)), H', ⟨by have := HK1.out; first | omega | exact Nat.le_refl _⟩, ⟨by (with_reducible repeat (first | apply Kd.R_alloc | apply Kd.R_drewN | apply Kd.R_drew)); exact HO157.out⟩, ⟨by repeat (first | (with_reducible first | exact HB.out | apply below_alloc | apply pw_below_drewN | apply below_drew1) | exact HB.out)⟩⟩
            · replace c14 := Bool.eq_false_iff.mpr c14
              subst c14
              have H1 : (locklesslaw02_OrderWeaker.j1 k1 a0 a1 x5_1 x6_1 x7_1 t154 t155 t158 t159 true) = some r := by rw [if_neg (show ¬ (false = true) by decide)] at H; exact H
              clear H
              have H := H1
              clear H1
              have H' := Aside0.mk H
              clear H
              go_wp2_with (first | ((with_reducible refine gate_callee (f := 16) rfl ?_); refine goesL_ (some 35) rfl rfl Try.func16 (by kernel_rfl) rfl #[.int .i64 x5_1] rfl (by (try simp only [List.map_toArray, List.map_cons, List.map_nil]); first | done | rfl | (simp only [List.length_drop, List.length_take]; rfl)) ?_; (with_reducible refine (locklessref02_Kind.calls x5_1 false _ A13.out).mono ?_); rintro e w' ⟨rfl, ⟨nd, rfl⟩⟩; refine ⟨_, rfl, ?_⟩))
              go_meet
              case rel => exact ⟨_, (true), (by first | rfl | (simp; done) | (simp [*]; done)), H', ⟨by have := HK1.out; first | omega | exact Nat.le_refl _⟩, ⟨by (with_reducible repeat (first | apply Kd.R_alloc | apply Kd.R_drewN | apply Kd.R_drew)); exact HO157.out⟩, ⟨by repeat (first | (with_reducible first | exact HB.out | apply below_alloc | apply pw_below_drewN | apply below_drew1) | exact HB.out)⟩⟩
          case rest =>
            clear HC11
            try clear c1
            try clear p2
            try clear c3
            try clear c4
            try clear c8
            try clear c8b0
            try clear c11
            try clear c12
            try clear c13
            try clear c14
            try clear c16
            try clear p2
            obtain ⟨kq, x47_10, rfl, HA, HJ10, HO_8, HB⟩ := hcut
            cases kq with
            | zero => exact absurd HA.out (by simp [locklesslaw02_OrderWeaker.j1])
            | succ kj10 =>
              have H := HA.out
              clear HA
              simp only [locklesslaw02_OrderWeaker.j1] at H
              by_cases c18 : x47_10 = true
              · subst c18
                have H1 : (if (t154.length : Int) = 0 then (if t158 = 0 then (if t155 = 1 then (if t159 = 1 then (locklesslaw02_OrderWeaker.l0 kj10 a0 a1 a0 a1 (wrap64 (x7_1 + 1))) else (some false)) else (some false)) else (some false)) else (some false)) = some r := by rw [if_pos rfl] at H; exact H
                clear H
                have H := H1
                clear H1
                by_cases c19 : (t154.length : Int) = 0
                · rw [if_pos c19] at H
                  have c19b0 : ((t154.length : Int) == 0) = true := beq_iff_eq.mpr c19
                  have c19b1 : ((t154.length : Int) != 0) = false := bne_eq_false_iff_eq.mpr c19
                  clear c19
                  by_cases c20 : t158 = 0
                  · rw [if_pos c20] at H
                    have c20b0 : (t158 == 0) = true := beq_iff_eq.mpr c20
                    have c20b1 : (t158 != 0) = false := bne_eq_false_iff_eq.mpr c20
                    clear c20
                    by_cases c21 : t155 = 1
                    · rw [if_pos c21] at H
                      have c21b0 : (t155 == 1) = true := beq_iff_eq.mpr c21
                      have c21b1 : (t155 != 1) = false := bne_eq_false_iff_eq.mpr c21
                      clear c21
                      by_cases c22 : t159 = 1
                      · rw [if_pos c22] at H
                        have c22b0 : (t159 == 1) = true := beq_iff_eq.mpr c22
                        have c22b1 : (t159 != 1) = false := bne_eq_false_iff_eq.mpr c22
                        clear c22
                        have H' := Aside0.mk H
                        clear H
                        obtain ⟨Ao23, co23, eo23⟩ := Kd.R_slice HO_8.out
                        subst eo23
                        go_wp2
                        go_roundg kj10
                        case measure => have := HK1.out; have := HJ10.out; omega
                        case rel => exact ⟨(a0), (a1), (wrap64 (x7_1 + 1)), (by first | rfl | (simp; done) | (simp [*]; done)), (by first | rfl | (simp; done) | (simp [*]; done)), (by first | rfl | (simp; done) | (simp [*]; done)), H', ⟨by have := HK1.out; have := HJ10.out; omega⟩, ⟨by repeat (first | (with_reducible first | exact HB.out | apply below_alloc | apply pw_below_drewN | apply below_drew1) | exact HB.out)⟩⟩
                      · rw [if_neg c22] at H
                        have c22b0 : (t159 == 1) = false := beq_eq_false_iff_ne.mpr c22
                        have c22b1 : (t159 != 1) = true := bne_iff_ne.mpr c22
                        obtain rfl := Option.some.inj H
                        obtain ⟨Ao24, co24, eo24⟩ := Kd.R_slice HO_8.out
                        subst eo24
                        go_wp2
                        go_ret
                        exact ⟨by first | rfl | (simp [errW_none, errW_some] <;> rfl) | (simp [*, errW_none, errW_some] <;> rfl), by repeat (first | (with_reducible first | exact HB.out | apply below_alloc | apply pw_below_drewN | apply below_drew1) | exact HB.out)⟩
                    · rw [if_neg c21] at H
                      have c21b0 : (t155 == 1) = false := beq_eq_false_iff_ne.mpr c21
                      have c21b1 : (t155 != 1) = true := bne_iff_ne.mpr c21
                      obtain rfl := Option.some.inj H
                      obtain ⟨Ao25, co25, eo25⟩ := Kd.R_slice HO_8.out
                      subst eo25
                      go_wp2
                      go_ret
                      exact ⟨by first | rfl | (simp [errW_none, errW_some] <;> rfl) | (simp [*, errW_none, errW_some] <;> rfl), by repeat (first | (with_reducible first | exact HB.out | apply below_alloc | apply pw_below_drewN | apply below_drew1) | exact HB.out)⟩
                  · rw [if_neg c20] at H
                    have c20b0 : (t158 == 0) = false := beq_eq_false_iff_ne.mpr c20
                    have c20b1 : (t158 != 0) = true := bne_iff_ne.mpr c20
                    obtain rfl := Option.some.inj H
                    obtain ⟨Ao26, co26, eo26⟩ := Kd.R_slice HO_8.out
                    subst eo26
                    go_wp2
                    go_ret
                    exact ⟨by first | rfl | (simp [errW_none, errW_some] <;> rfl) | (simp [*, errW_none, errW_some] <;> rfl), by repeat (first | (with_reducible first | exact HB.out | apply below_alloc | apply pw_below_drewN | apply below_drew1) | exact HB.out)⟩
                · rw [if_neg c19] at H
                  have c19b0 : ((t154.length : Int) == 0) = false := beq_eq_false_iff_ne.mpr c19
                  have c19b1 : ((t154.length : Int) != 0) = true := bne_iff_ne.mpr c19
                  have c19b2 : ¬ (t154 = []) := fun h_ => c19 (by rw [h_]; rfl)
                  obtain rfl := Option.some.inj H
                  obtain ⟨Ao27, co27, eo27⟩ := Kd.R_slice HO_8.out
                  subst eo27
                  go_wp2
                  go_ret
                  exact ⟨by first | rfl | (simp [errW_none, errW_some] <;> rfl) | (simp [*, errW_none, errW_some] <;> rfl), by repeat (first | (with_reducible first | exact HB.out | apply below_alloc | apply pw_below_drewN | apply below_drew1) | exact HB.out)⟩
              · replace c18 := Bool.eq_false_iff.mpr c18
                subst c18
                have H1 : ((locklessref02_Weaker.f kj10 x5_1 x6_1).bind fun t163 => ((locklesslaw02_same.f kj10 t154 t163).bind fun t166 => (if t166 = true then (locklesslaw02_OrderWeaker.j2 kj10 a0 a1 x5_1 x6_1 x7_1 t158 t159 (t155 != 0)) else (locklesslaw02_OrderWeaker.j2 kj10 a0 a1 x5_1 x6_1 x7_1 t158 t159 true)))) = some r := by rw [if_neg (show ¬ (false = true) by decide)] at H; exact H
                clear H
                have H := H1
                clear H1
                have HC28 := Aside0.mk H
                clear H
                go_upto_region 12 with (fail)
                go_cut [72] (fun v72 wc => ∃ (kq : Nat) (x72_27 : Bool), v72 = .bool x72_27 ∧ Aside0 (locklesslaw02_OrderWeaker.j2 kq a0 a1 x5_1 x6_1 x7_1 t158 t159 x72_27 = some r) ∧ Aside0 (kq ≤ kj10) ∧ Aside0 (Below w.heap.size w wc))
                case first =>
                  have H := HC28.out
                  clear HC28
                  replace H := Option.bind_eq_some_iff.mp H
                  obtain ⟨t163, A290, H⟩ := H
                  replace H : ((locklesslaw02_same.f kj10 t154 t163).bind fun t166 => (if t166 = true then (locklesslaw02_OrderWeaker.j2 kj10 a0 a1 x5_1 x6_1 x7_1 t158 t159 (t155 != 0)) else (locklesslaw02_OrderWeaker.j2 kj10 a0 a1 x5_1 x6_1 x7_1 t158 t159 true))) = some r := H
                  have A29 := Aside0.mk A290
                  clear A290
                  replace H := Option.bind_eq_some_iff.mp H
                  obtain ⟨t166, A300, H⟩ := H
                  replace H : (if t166 = true then (locklesslaw02_OrderWeaker.j2 kj10 a0 a1 x5_1 x6_1 x7_1 t158 t159 (t155 != 0)) else (locklesslaw02_OrderWeaker.j2 kj10 a0 a1 x5_1 x6_1 x7_1 t158 t159 true)) = some r := H
                  have A30 := Aside0.mk A300
                  clear A300
                  by_cases c31 : t166 = true
                  · subst c31
                    have H1 : (locklesslaw02_OrderWeaker.j2 kj10 a0 a1 x5_1 x6_1 x7_1 t158 t159 (t155 != 0)) = some r := by rw [if_pos rfl] at H; exact H
                    clear H
                    have H := H1
                    clear H1
                    have H' := Aside0.mk H
                    clear H
                    go_wp2_with (first | ((with_reducible refine gate_callee (f := 37) rfl ?_); refine goesL_ (some 66) rfl rfl Try.func37 (by kernel_rfl) rfl #[.int .i64 x5_1, .int .i64 x6_1] rfl (by (try simp only [List.map_toArray, List.map_cons, List.map_nil]); first | done | rfl | (simp only [List.length_drop, List.length_take]; rfl)) ?_; (with_reducible refine (locklessref02_Weaker.calls kj10 x5_1 x6_1 t163 _ A29.out).mono ?_); rintro e w32 ⟨v164, rfl, ho0, hb⟩; refine ⟨_, rfl, ?_⟩; have n0_ := Aside0.mk (Kd.R_elder' (by (with_reducible repeat (first | apply Kd.R_alloc | apply Kd.R_drewN | apply Kd.R_drew)); exact HO_8.out) (Kd.R_base ho0) hb); have n1_ := Aside0.mk (Kd.R_lower (Kd.R_new' ho0 (Kd.R_lt (by (with_reducible repeat (first | apply Kd.R_alloc | apply Kd.R_drewN | apply Kd.R_drew)); exact HO_8.out))) (below_size (by repeat (first | (with_reducible first | exact HB.out | apply below_alloc | apply pw_below_drewN | apply below_drew1) | exact HB.out)))); have n2_ := Aside0.mk (below_step (by repeat (first | (with_reducible first | exact HB.out | apply below_alloc | apply pw_below_drewN | apply below_drew1) | exact HB.out)) hb); clear HO_8; clear HB; have HO_8 := n0_; have HO165 := n1_; have HB := n2_; clear n0_ n1_ n2_; (try clear hb); (try clear hb2); (try clear hk); (try clear hi); (try clear ho0); obtain ⟨Ao33, co33, eo33⟩ := Kd.R_slice HO_8.out; subst eo33; obtain ⟨Ao34, co34, eo34⟩ := Kd.R_slice HO165.out; subst eo34) | ((with_reducible refine gate_callee (f := 17) rfl ?_); refine goesL_ (some 67) rfl rfl Try.func17 (by kernel_rfl) rfl #[.slice Ao33 t154.length co33, .slice Ao34 t163.length co34] rfl (by (try simp only [List.map_toArray, List.map_cons, List.map_nil]); first | done | rfl | (simp only [List.length_drop, List.length_take]; rfl)) ?_; (with_reducible refine (locklesslaw02_same.calls kj10 _ _ t154 _ _ t163 true _ ?side1 ?side2 ?side3 ?side4 A30.out).mono ?_); (case side1 => repeat (first | exact (Kd.R_reads' HO_8.out).2.2 | (with_reducible refine Kd.C_alloc ?_ _) | (with_reducible refine Kd.C_drewN ?_ _) | (with_reducible refine Kd.C_drew ?_))); (case side2 => exact (Kd.R_reads' HO_8.out).2.1); (case side3 => repeat (first | exact (Kd.R_reads' HO165.out).2.2 | (with_reducible refine Kd.C_alloc ?_ _) | (with_reducible refine Kd.C_drewN ?_ _) | (with_reducible refine Kd.C_drew ?_))); (case side4 => exact (Kd.R_reads' HO165.out).2.1); rintro e w' ⟨rfl, ⟨nd, rfl⟩⟩; refine ⟨_, rfl, ?_⟩))
                    go_meet
                    case rel => exact ⟨_, ((t155 != 0)), (by first | rfl | (simp; done) | (simp [*]; done)), H', ⟨by have := HK1.out; have := HJ10.out; first | omega | exact Nat.le_refl _⟩, ⟨by repeat (first | (with_reducible first | exact HB.out | apply below_alloc | apply pw_below_drewN | apply below_drew1) | exact HB.out)⟩⟩
                  · replace c31 := Bool.eq_false_iff.mpr c31
                    subst c31
                    have H1 : (locklesslaw02_OrderWeaker.j2 kj10 a0 a1 x5_1 x6_1 x7_1 t158 t159 true) = some r := by rw [if_neg (show ¬ (false = true) by decide)] at H; exact H
                    clear H
                    have H := H1
                    clear H1
                    have H' := Aside0.mk H
                    clear H
                    go_wp2_with (first | ((with_reducible refine gate_callee (f := 37) rfl ?_); refine goesL_ (some 66) rfl rfl Try.func37 (by kernel_rfl) rfl #[.int .i64 x5_1, .int .i64 x6_1] rfl (by (try simp only [List.map_toArray, List.map_cons, List.map_nil]); first | done | rfl | (simp only [List.length_drop, List.length_take]; rfl)) ?_; (with_reducible refine (locklessref02_Weaker.calls kj10 x5_1 x6_1 t163 _ A29.out).mono ?_); rintro e w35 ⟨v164, rfl, ho0, hb⟩; refine ⟨_, rfl, ?_⟩; have n0_ := Aside0.mk (Kd.R_elder' (by (with_reducible repeat (first | apply Kd.R_alloc | apply Kd.R_drewN | apply Kd.R_drew)); exact HO_8.out) (Kd.R_base ho0) hb); have n1_ := Aside0.mk (Kd.R_lower (Kd.R_new' ho0 (Kd.R_lt (by (with_reducible repeat (first | apply Kd.R_alloc | apply Kd.R_drewN | apply Kd.R_drew)); exact HO_8.out))) (below_size (by repeat (first | (with_reducible first | exact HB.out | apply below_alloc | apply pw_below_drewN | apply below_drew1) | exact HB.out)))); have n2_ := Aside0.mk (below_step (by repeat (first | (with_reducible first | exact HB.out | apply below_alloc | apply pw_below_drewN | apply below_drew1) | exact HB.out)) hb); clear HO_8; clear HB; have HO_8 := n0_; have HO165 := n1_; have HB := n2_; clear n0_ n1_ n2_; (try clear hb); (try clear hb2); (try clear hk); (try clear hi); (try clear ho0); obtain ⟨Ao36, co36, eo36⟩ := Kd.R_slice HO_8.out; subst eo36; obtain ⟨Ao37, co37, eo37⟩ := Kd.R_slice HO165.out; subst eo37) | ((with_reducible refine gate_callee (f := 17) rfl ?_); refine goesL_ (some 67) rfl rfl Try.func17 (by kernel_rfl) rfl #[.slice Ao36 t154.length co36, .slice Ao37 t163.length co37] rfl (by (try simp only [List.map_toArray, List.map_cons, List.map_nil]); first | done | rfl | (simp only [List.length_drop, List.length_take]; rfl)) ?_; (with_reducible refine (locklesslaw02_same.calls kj10 _ _ t154 _ _ t163 false _ ?side1 ?side2 ?side3 ?side4 A30.out).mono ?_); (case side1 => repeat (first | exact (Kd.R_reads' HO_8.out).2.2 | (with_reducible refine Kd.C_alloc ?_ _) | (with_reducible refine Kd.C_drewN ?_ _) | (with_reducible refine Kd.C_drew ?_))); (case side2 => exact (Kd.R_reads' HO_8.out).2.1); (case side3 => repeat (first | exact (Kd.R_reads' HO165.out).2.2 | (with_reducible refine Kd.C_alloc ?_ _) | (with_reducible refine Kd.C_drewN ?_ _) | (with_reducible refine Kd.C_drew ?_))); (case side4 => exact (Kd.R_reads' HO165.out).2.1); rintro e w' ⟨rfl, ⟨nd, rfl⟩⟩; refine ⟨_, rfl, ?_⟩))
                    go_meet
                    case rel => exact ⟨_, (true), (by first | rfl | (simp; done) | (simp [*]; done)), H', ⟨by have := HK1.out; have := HJ10.out; first | omega | exact Nat.le_refl _⟩, ⟨by repeat (first | (with_reducible first | exact HB.out | apply below_alloc | apply pw_below_drewN | apply below_drew1) | exact HB.out)⟩⟩
                case rest =>
                  clear HC28
                  try clear c1
                  try clear c2
                  try clear p2
                  try clear c3
                  try clear c4
                  try clear p6
                  try clear c8
                  try clear c8b0
                  try clear c11
                  try clear c12
                  try clear c13
                  try clear c14
                  try clear c16
                  try clear c17
                  try clear c18
                  try clear c19
                  try clear c19b0
                  try clear c19b1
                  try clear c19b2
                  try clear c20
                  try clear c20b0
                  try clear c20b1
                  try clear c21
                  try clear c21b0
                  try clear c21b1
                  try clear c22
                  try clear c22b0
                  try clear c22b1
                  try clear c31
                  try clear c35
                  try clear c36
                  try clear c37
                  try clear p2
                  obtain ⟨kq, x72_27, rfl, HA, HJ27, HB⟩ := hcut
                  cases kq with
                  | zero => exact absurd HA.out (by simp [locklesslaw02_OrderWeaker.j2])
                  | succ kj27 =>
                    have H := HA.out
                    clear HA
                    simp only [locklesslaw02_OrderWeaker.j2] at H
                    by_cases c38 : x72_27 = true
                    · subst c38
                      have H1 : (some false) = some r := by rw [if_pos rfl] at H; exact H
                      clear H
                      have H := H1
                      clear H1
                      obtain rfl := Option.some.inj H
                      go_wp2
                      go_ret
                      exact ⟨by first | rfl | (simp [errW_none, errW_some] <;> rfl) | (simp [*, errW_none, errW_some] <;> rfl), by repeat (first | (with_reducible first | exact HB.out | apply below_alloc | apply pw_below_drewN | apply below_drew1) | exact HB.out)⟩
                    · replace c38 := Bool.eq_false_iff.mpr c38
                      subst c38
                      have H1 : (if x5_1 = 5 then (if t158 = 0 then (if t159 = 1 then (locklesslaw02_OrderWeaker.l0 kj27 a0 a1 a0 a1 (wrap64 (x7_1 + 1))) else (some false)) else (some false)) else ((locklessref02_Plain.f x5_1 x6_1).bind fun t167 => (if t158 = t167 then (if t159 = 0 then (locklesslaw02_OrderWeaker.l0 kj27 a0 a1 a0 a1 (wrap64 (x7_1 + 1))) else (some false)) else (some false)))) = some r := by rw [if_neg (show ¬ (false = true) by decide)] at H; exact H
                      clear H
                      have H := H1
                      clear H1
                      by_cases c39 : x5_1 = 5
                      · rw [if_pos c39] at H
                        have c39b0 : (x5_1 == 5) = true := beq_iff_eq.mpr c39
                        have c39b1 : (x5_1 != 5) = false := bne_eq_false_iff_eq.mpr c39
                        clear c39
                        by_cases c40 : t158 = 0
                        · rw [if_pos c40] at H
                          have c40b0 : (t158 == 0) = true := beq_iff_eq.mpr c40
                          have c40b1 : (t158 != 0) = false := bne_eq_false_iff_eq.mpr c40
                          clear c40
                          by_cases c41 : t159 = 1
                          · rw [if_pos c41] at H
                            have c41b0 : (t159 == 1) = true := beq_iff_eq.mpr c41
                            have c41b1 : (t159 != 1) = false := bne_eq_false_iff_eq.mpr c41
                            clear c41
                            have H' := Aside0.mk H
                            clear H
                            go_wp2
                            go_roundg kj27
                            case measure => have := HK1.out; have := HJ10.out; have := HJ27.out; omega
                            case rel => exact ⟨(a0), (a1), (wrap64 (x7_1 + 1)), (by first | rfl | (simp; done) | (simp [*]; done)), (by first | rfl | (simp; done) | (simp [*]; done)), (by first | rfl | (simp; done) | (simp [*]; done)), H', ⟨by have := HK1.out; have := HJ10.out; have := HJ27.out; omega⟩, ⟨by repeat (first | (with_reducible first | exact HB.out | apply below_alloc | apply pw_below_drewN | apply below_drew1) | exact HB.out)⟩⟩
                          · rw [if_neg c41] at H
                            have c41b0 : (t159 == 1) = false := beq_eq_false_iff_ne.mpr c41
                            have c41b1 : (t159 != 1) = true := bne_iff_ne.mpr c41
                            obtain rfl := Option.some.inj H
                            go_wp2
                            go_ret
                            exact ⟨by first | rfl | (simp [errW_none, errW_some] <;> rfl) | (simp [*, errW_none, errW_some] <;> rfl), by repeat (first | (with_reducible first | exact HB.out | apply below_alloc | apply pw_below_drewN | apply below_drew1) | exact HB.out)⟩
                        · rw [if_neg c40] at H
                          have c40b0 : (t158 == 0) = false := beq_eq_false_iff_ne.mpr c40
                          have c40b1 : (t158 != 0) = true := bne_iff_ne.mpr c40
                          obtain rfl := Option.some.inj H
                          go_wp2
                          go_ret
                          exact ⟨by first | rfl | (simp [errW_none, errW_some] <;> rfl) | (simp [*, errW_none, errW_some] <;> rfl), by repeat (first | (with_reducible first | exact HB.out | apply below_alloc | apply pw_below_drewN | apply below_drew1) | exact HB.out)⟩
                      · rw [if_neg c39] at H
                        have c39b0 : (x5_1 == 5) = false := beq_eq_false_iff_ne.mpr c39
                        have c39b1 : (x5_1 != 5) = true := bne_iff_ne.mpr c39
                        replace H := Option.bind_eq_some_iff.mp H
                        obtain ⟨t167, A420, H⟩ := H
                        replace H : (if t158 = t167 then (if t159 = 0 then (locklesslaw02_OrderWeaker.l0 kj27 a0 a1 a0 a1 (wrap64 (x7_1 + 1))) else (some false)) else (some false)) = some r := H
                        have A42 := Aside0.mk A420
                        clear A420
                        by_cases c43 : t158 = t167
                        · rw [if_pos c43] at H
                          have c43b0 : (t158 == t167) = true := beq_iff_eq.mpr c43
                          have c43b1 : (t158 != t167) = false := bne_eq_false_iff_eq.mpr c43
                          clear c43
                          by_cases c44 : t159 = 0
                          · rw [if_pos c44] at H
                            have c44b0 : (t159 == 0) = true := beq_iff_eq.mpr c44
                            have c44b1 : (t159 != 0) = false := bne_eq_false_iff_eq.mpr c44
                            clear c44
                            have H' := Aside0.mk H
                            clear H
                            go_wp2_with (first | (go_at_call 38; (with_reducible refine (locklessref02_Plain.calls x5_1 x6_1 t167 _ A42.out).mono ?_); rintro e w' ⟨rfl, ⟨nd, rfl⟩⟩))
                            go_roundg kj27
                            case measure => have := HK1.out; have := HJ10.out; have := HJ27.out; omega
                            case rel => exact ⟨(a0), (a1), (wrap64 (x7_1 + 1)), (by first | rfl | (simp; done) | (simp [*]; done)), (by first | rfl | (simp; done) | (simp [*]; done)), (by first | rfl | (simp; done) | (simp [*]; done)), H', ⟨by have := HK1.out; have := HJ10.out; have := HJ27.out; omega⟩, ⟨by repeat (first | (with_reducible first | exact HB.out | apply below_alloc | apply pw_below_drewN | apply below_drew1) | exact HB.out)⟩⟩
                          · rw [if_neg c44] at H
                            have c44b0 : (t159 == 0) = false := beq_eq_false_iff_ne.mpr c44
                            have c44b1 : (t159 != 0) = true := bne_iff_ne.mpr c44
                            obtain rfl := Option.some.inj H
                            go_wp2_with (first | (go_at_call 38; (with_reducible refine (locklessref02_Plain.calls x5_1 x6_1 t167 _ A42.out).mono ?_); rintro e w' ⟨rfl, ⟨nd, rfl⟩⟩))
                            go_ret
                            exact ⟨by first | rfl | (simp [errW_none, errW_some] <;> rfl) | (simp [*, errW_none, errW_some] <;> rfl), by repeat (first | (with_reducible first | exact HB.out | apply below_alloc | apply pw_below_drewN | apply below_drew1) | exact HB.out)⟩
                        · rw [if_neg c43] at H
                          have c43b0 : (t158 == t167) = false := beq_eq_false_iff_ne.mpr c43
                          have c43b1 : (t158 != t167) = true := bne_iff_ne.mpr c43
                          obtain rfl := Option.some.inj H
                          go_wp2_with (first | (go_at_call 38; (with_reducible refine (locklessref02_Plain.calls x5_1 x6_1 t167 _ A42.out).mono ?_); rintro e w' ⟨rfl, ⟨nd, rfl⟩⟩))
                          go_ret
                          exact ⟨by first | rfl | (simp [errW_none, errW_some] <;> rfl) | (simp [*, errW_none, errW_some] <;> rfl), by repeat (first | (with_reducible first | exact HB.out | apply below_alloc | apply pw_below_drewN | apply below_drew1) | exact HB.out)⟩
        · rw [if_neg c8] at H
          have c8b0 : decide (x7_1 < 2) = false := decide_eq_false c8
          clear c8
          obtain rfl := Option.some.inj H
          go_wp2
          go_ret
          exact ⟨by first | rfl | (simp [errW_none, errW_some] <;> rfl) | (simp [*, errW_none, errW_some] <;> rfl), by repeat (first | (with_reducible first | exact HB.out | apply below_alloc | apply pw_below_drewN | apply below_drew1) | exact HB.out)⟩
  · replace c4 := Bool.eq_false_iff.mpr c4
    subst c4
    have H1 : (some false) = some r := by rw [if_neg (show ¬ (false = true) by decide)] at H; exact H
    clear H
    have H := H1
    clear H1
    obtain rfl := Option.some.inj H
    go_enter Try.func11, Try.ntmps11
    go_wp2_with (first | ((with_reducible refine gate_callee (f := 12) rfl ?_); refine goesL_ (some 12) rfl rfl Try.func12 (by kernel_rfl) rfl #[] rfl (by (try simp only [List.map_toArray, List.map_cons, List.map_nil]); first | done | rfl | (simp only [List.length_drop, List.length_take]; rfl)) ?_; (with_reducible refine (locklesslaw02_awake.calls k  false _ A3.out).mono ?_); rintro e w45 ⟨rfl, hb⟩; refine ⟨_, rfl, ?_⟩; have n0_ := Aside0.mk (below_step (by repeat (first | (with_reducible first | exact HB.out | apply below_alloc | apply pw_below_drewN | apply below_drew1) | exact HB.out)) hb); clear HB; have HB := n0_; clear n0_; (try clear hb); (try clear hb2); (try clear hk); (try clear hi)))
    go_ret
    exact ⟨by first | rfl | (simp [errW_none, errW_some] <;> rfl) | (simp [*, errW_none, errW_some] <;> rfl), by repeat (first | (with_reducible first | exact HB.out | apply below_alloc | apply pw_below_drewN | apply below_drew1) | exact HB.out)⟩

/-- THE ONE PURE STATEMENT of locklesslaw02_OrderWeaker: yours. -/
def locklesslaw02_OrderWeaker.Pure : Prop := ∀ (a0 : Int) (a1 : Int), (Lit.int .i64 a0).wf = true → (Lit.int .i64 a1).wf = true → ∃ k, locklesslaw02_OrderWeaker.f k a0 a1 = some true
theorem locklesslaw02_OrderWeaker.walk (P : locklesslaw02_OrderWeaker.Pure) (a0 : Int) (a1 : Int) (w : World) (w0 : (Lit.int .i64 a0).wf = true) (w1 : (Lit.int .i64 a1).wf = true) :
    Calls Try.prog 11 #[.int .i64 a0, .int .i64 a1] w fun e w' => e = .returned (.bool true) ∧ Below w.heap.size w w' := by
  obtain ⟨k, h⟩ := P a0 a1 w0 w1
  refine (locklesslaw02_OrderWeaker.calls k a0 a1 true w h).mono ?_
  rintro e w' ⟨rfl, hd⟩
  exact ⟨rfl, hd⟩

end Go.Proofs.Ytjiblcngjfbcmaa.POrderWeaker
