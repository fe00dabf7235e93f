/- What the Go functions of this text compute, as plain Lean functions, and that the machine does just that: written by a program of this session; no condition. -/
import Derived.Test.YtiialjmpfeopjaaXRi0
namespace Go.Proofs.Ytiialjmpfeopjaa.XRi
open Go.RowKit Go.Proofs.YtiialjmpfeopjaaW.PrintWords Go.Proofs.YtiialjmpfeopjaaW.PrintLast Go.Proofs.YtiialjmpfeopjaaW.PrintMore
attribute [local go_sem] max2_int min2_int max_two min_two max_three min_three max_four min_four   -- for this text's walks alone
set_option linter.unusedVariables false
set_option linter.unusedSimpArgs false

/-! ### spec_Run: function 24 -/
def callT (x : S27) : ByteArray × Int × Int := (x.f0, x.f1, x.f2)
theorem calls_at {w : World} {A : Option Addr} {l : List S27} (h : Kd.C k27 w A l.length l) : Sp.CallsAt w A (l.map callT) := by
  intro j hj
  rw [List.length_map] at hj
  obtain ⟨ad, e, h0, h1, h2⟩ := at_T27 h (j : Int) (by omega) (by omega)
  have hx : rd_T27 l (j : Int) = l[j] := by unfold rd_T27; rw [Int.toNat_natCast, List.getD_eq_getElem?_getD, List.getElem?_eq_getElem hj]; rfl
  rw [hx, Int.toNat_natCast] at h0 h1 h2
  refine ⟨ad, e, ?_, ?_, ?_⟩
  · rw [List.getElem_map]; exact h0
  · rw [List.getElem_map, Sp.add_field ad (j * 3) 1 (by decide)]; exact h1
  · rw [List.getElem_map, Sp.add_field ad (j * 3) 2 (by decide)]; exact h2
def spec_Run.f (a0 a1 : Int) (l2 : List S27) : Option (List Int × List Int × Int) := if a0 ≠ 10 ∧ l2.length ≤ 1000000 then Sp.runS a0 a1 (l2.map callT) else none
theorem spec_Run.calls (a0 : Int) (a1 : Int) (A2 : Option Addr) (c2 : Nat) (l2 : List S27) (r1 : List Int) (r2 : List Int) (r3 : Int) (w : World) (hr2 : Kd.C k27 w A2 l2.length l2) (hc2 : l2.length ≤ c2) (h : spec_Run.f a0 a1 l2 = some (r1, r2, r3)) :
    Calls Try.prog 24 #[.int .i64 a0, .int .i64 a1, .slice A2 l2.length c2] w fun e w' => ∃ v0_ v1_ : Value, e = .returned (.tuple #[v0_, v1_, .int .i64 r3]) ∧ Kd.R (Kd.int .i64) 3 w' w.heap.size (fun k_ => some k_ ≠ (v1_ : Value).ownBlock) v0_ r1 ∧ Kd.R (Kd.int .i64) 3 w' w.heap.size (fun k_ => some k_ ≠ (v0_ : Value).ownBlock) v1_ r2 ∧ Below w.heap.size w w' := by
  unfold spec_Run.f at h
  by_cases h10 : a0 ≠ 10 ∧ l2.length ≤ 1000000
  · rw [if_pos h10] at h
    have hw := Sp.run_calls A2 c2 w h10.1 (calls_at hr2) (by rw [List.length_map]; exact h10.2) h
    rw [List.length_map] at hw
    refine hw.mono ?_
    rintro e w' ⟨v, u, rfl, hv, hu, hap, hb⟩
    refine ⟨v, u, rfl, Kd.R_of_own hv (fun k hk e => ?_), Kd.R_of_own hu (fun k hk e => ?_), hb⟩
    · rcases hap with h | h
      · rw [hk] at h; cases h
      · exact h (hk.trans e)
    · rcases hap with h | h
      · rw [h] at e; cases e
      · exact h (e.symm.trans hk.symm)
  · rw [if_neg h10] at h; exact absurd h (by simp)

/-! ### locklesslaw18_awake: function 15 -/
def locklesslaw18_awake.f  : Option (Bool) := (spec_Run.f 2 1 (([(⟨(⟨#[101, 110, 113]⟩ : ByteArray), 5, 0⟩ : S27), (⟨(⟨#[101, 110, 113]⟩ : ByteArray), 6, 0⟩ : S27), (⟨(⟨#[100, 101, 113]⟩ : ByteArray), 0, 0⟩ : S27)] : List (S27)))).bind fun bt104 => (if (bt104.1.length : Int) = 3 then (if 0 < (bt104.1.length : Int) then (if (rd bt104.1 0) = 0 then (if 1 < (bt104.1.length : Int) then (if (rd bt104.1 1) = 0 then (if 2 < (bt104.1.length : Int) then (if (rd bt104.1 2) = 5 then (if (bt104.2.1.length : Int) = 1 then (if 0 < (bt104.2.1.length : Int) then (if (rd bt104.2.1 0) = 6 then (some (bt104.2.2 == 0)) else (some false)) else (none)) else (some false)) else (some false)) else (none)) else (some false)) else (none)) else (some false)) else (none)) else (some false))
set_option maxHeartbeats 8000000 in
set_option maxRecDepth 100000 in
theorem locklesslaw18_awake.calls  (r : Bool) (w : World) (h : locklesslaw18_awake.f  = some r) :
    Calls Try.prog 15 #[] w fun e w' => e = .returned (.bool r) ∧ Below w.heap.size w w' := by
  have hu27 := Try.underlying27
  have HB := Aside0.mk (Below.refl w.heap.size w)
  have H : ((spec_Run.f 2 1 (([(⟨(⟨#[101, 110, 113]⟩ : ByteArray), 5, 0⟩ : S27), (⟨(⟨#[101, 110, 113]⟩ : ByteArray), 6, 0⟩ : S27), (⟨(⟨#[100, 101, 113]⟩ : ByteArray), 0, 0⟩ : S27)] : List (S27)))).bind fun bt104 => (if (bt104.1.length : Int) = 3 then (if 0 < (bt104.1.length : Int) then (if (rd bt104.1 0) = 0 then (if 1 < (bt104.1.length : Int) then (if (rd bt104.1 1) = 0 then (if 2 < (bt104.1.length : Int) then (if (rd bt104.1 2) = 5 then (if (bt104.2.1.length : Int) = 1 then (if 0 < (bt104.2.1.length : Int) then (if (rd bt104.2.1 0) = 6 then (some (bt104.2.2 == 0)) else (some false)) else (none)) else (some false)) else (some false)) else (none)) else (some false)) else (none)) else (some false)) else (none)) else (some false))) = some r := h
  clear h
  obtain ⟨y101, hy101⟩ : ∃ y_ : List (S27), y_ = (([(⟨(⟨#[101, 110, 113]⟩ : ByteArray), 5, 0⟩ : S27), (⟨(⟨#[101, 110, 113]⟩ : ByteArray), 6, 0⟩ : S27), (⟨(⟨#[100, 101, 113]⟩ : ByteArray), 0, 0⟩ : S27)] : List (S27))) := ⟨_, rfl⟩
  replace H : ((spec_Run.f 2 1 y101).bind fun bt104 => (if (bt104.1.length : Int) = 3 then (if 0 < (bt104.1.length : Int) then (if (rd bt104.1 0) = 0 then (if 1 < (bt104.1.length : Int) then (if (rd bt104.1 1) = 0 then (if 2 < (bt104.1.length : Int) then (if (rd bt104.1 2) = 5 then (if (bt104.2.1.length : Int) = 1 then (if 0 < (bt104.2.1.length : Int) then (if (rd bt104.2.1 0) = 6 then (some (bt104.2.2 == 0)) else (some false)) else (none)) else (some false)) else (some false)) else (none)) else (some false)) else (none)) else (some false)) else (none)) else (some false))) = some r := by first | (rw [hy101]; with_reducible exact H) | (have H2_ := (Option.bind_some _ _).symm.trans H; rw [hy101]; with_reducible exact H2_) | (have H2_ := (Option.bind_some _ _).symm.trans H; with_reducible exact H2_) | with_reducible exact H | (rw [hy101]; exact H) | exact H
  have Ny101 := Aside0.mk hy101
  clear hy101
  replace H := Option.bind_eq_some_iff.mp H
  obtain ⟨⟨t104, t105, t106⟩, A10, H⟩ := H
  replace H : (if (t104.length : Int) = 3 then (if 0 < (t104.length : Int) then (if (rd t104 0) = 0 then (if 1 < (t104.length : Int) then (if (rd t104 1) = 0 then (if 2 < (t104.length : Int) then (if (rd t104 2) = 5 then (if (t105.length : Int) = 1 then (if 0 < (t105.length : Int) then (if (rd t105 0) = 6 then (some (t106 == 0)) else (some false)) else (none)) else (some false)) else (some false)) else (none)) else (some false)) else (none)) else (some false)) else (none)) else (some false)) = some r := H
  have A1 := Aside0.mk A10
  clear A10
  by_cases c2 : (t104.length : Int) = 3
  · rw [if_pos c2] at H
    have c2b0 : ((t104.length : Int) == 3) = true := beq_iff_eq.mpr c2
    have c2b1 : ((t104.length : Int) != 3) = false := bne_eq_false_iff_eq.mpr c2
    clear c2
    by_cases c3 : 0 < (t104.length : Int)
    · rw [if_pos c3] at H
      have c3b0 : decide (0 < (t104.length : Int)) = true := decide_eq_true c3
      have c3b1 : decide (0 < t104.length) = true := decide_eq_true (by omega)
      clear c3
      by_cases c4 : (rd t104 0) = 0
      · rw [if_pos c4] at H
        have c4b0 : ((rd t104 0) == 0) = true := beq_iff_eq.mpr c4
        have c4b1 : ((rd t104 0) != 0) = false := bne_eq_false_iff_eq.mpr c4
        clear c4
        by_cases c5 : 1 < (t104.length : Int)
        · rw [if_pos c5] at H
          have c5b0 : decide (1 < (t104.length : Int)) = true := decide_eq_true c5
          have c5b1 : decide (1 < t104.length) = true := decide_eq_true (by omega)
          clear c5
          by_cases c6 : (rd t104 1) = 0
          · rw [if_pos c6] at H
            have c6b0 : ((rd t104 1) == 0) = true := beq_iff_eq.mpr c6
            have c6b1 : ((rd t104 1) != 0) = false := bne_eq_false_iff_eq.mpr c6
            clear c6
            by_cases c7 : 2 < (t104.length : Int)
            · rw [if_pos c7] at H
              have c7b0 : decide (2 < (t104.length : Int)) = true := decide_eq_true c7
              have c7b1 : decide (2 < t104.length) = true := decide_eq_true (by omega)
              clear c7
              by_cases c8 : (rd t104 2) = 5
              · rw [if_pos c8] at H
                have c8b0 : ((rd t104 2) == 5) = true := beq_iff_eq.mpr c8
                have c8b1 : ((rd t104 2) != 5) = false := bne_eq_false_iff_eq.mpr c8
                clear c8
                by_cases c9 : (t105.length : Int) = 1
                · rw [if_pos c9] at H
                  have c9b0 : ((t105.length : Int) == 1) = true := beq_iff_eq.mpr c9
                  have c9b1 : ((t105.length : Int) != 1) = false := bne_eq_false_iff_eq.mpr c9
                  clear c9
                  by_cases c10 : 0 < (t105.length : Int)
                  · rw [if_pos c10] at H
                    have c10b0 : decide (0 < (t105.length : Int)) = true := decide_eq_true c10
                    have c10b1 : decide (0 < t105.length) = true := decide_eq_true (by omega)
                    clear c10
                    by_cases c11 : (rd t105 0) = 6
                    · rw [if_pos c11] at H
                      have c11b0 : ((rd t105 0) == 6) = true := beq_iff_eq.mpr c11
                      have c11b1 : ((rd t105 0) != 6) = false := bne_eq_false_iff_eq.mpr c11
                      clear c11
                      obtain rfl := Option.some.inj H
                      go_enter Try.func15, Try.ntmps15
                      go_wp2_with (first | ((with_reducible refine gate_dst (N := 8) rfl ?_); (try (refine gate_guard (by rfl) ?_; dsimp only)); refine Kd.R_lit k27 _ 27 ?hg (N := 8) ?hd (xs := ([(⟨(⟨#[101, 110, 113]⟩ : ByteArray), 5, 0⟩ : S27), (⟨(⟨#[101, 110, 113]⟩ : ByteArray), 6, 0⟩ : S27), (⟨(⟨#[100, 101, 113]⟩ : ByteArray), 0, 0⟩ : S27)] : List (S27))) (inner := [.string (⟨#[101, 110, 113]⟩ : ByteArray), .int .i64 5, .int .i64 0, .string (⟨#[101, 110, 113]⟩ : ByteArray), .int .i64 6, .int .i64 0, .string (⟨#[100, 101, 113]⟩ : ByteArray), .int .i64 0, .int .i64 0]) (ok := fun _ => True) (okp := fun _ => True) ?hr ?hp (fun _ hk => hk) trivial (Below.refl _ _) (Nat.le_refl _) (by simp) ?_; (case hd => rfl); (case hg => rfl); (case hr => first | (go_simp; done) | (go_simp; rfl)); (case hp => exact (Reps.c3 (show Kd.M k27 _ _ _ (⟨(⟨#[101, 110, 113]⟩ : ByteArray), 5, 0⟩ : S27) [.string (⟨#[101, 110, 113]⟩ : ByteArray), .int .i64 5, .int .i64 0] from (k27_mkM _ _ _ (⟨(⟨#[101, 110, 113]⟩ : ByteArray), 5, 0⟩ : S27) )) (Reps.c3 (show Kd.M k27 _ _ _ (⟨(⟨#[101, 110, 113]⟩ : ByteArray), 6, 0⟩ : S27) [.string (⟨#[101, 110, 113]⟩ : ByteArray), .int .i64 6, .int .i64 0] from (k27_mkM _ _ _ (⟨(⟨#[101, 110, 113]⟩ : ByteArray), 6, 0⟩ : S27) )) (Reps.c3 (show Kd.M k27 _ _ _ (⟨(⟨#[100, 101, 113]⟩ : ByteArray), 0, 0⟩ : S27) [.string (⟨#[100, 101, 113]⟩ : ByteArray), .int .i64 0, .int .i64 0] from (k27_mkM _ _ _ (⟨(⟨#[100, 101, 113]⟩ : ByteArray), 0, 0⟩ : S27) )) (Reps.none _ _))))); intro v102 w12 ho13 hb hg_ hnew_; clear hg_ hnew_; (first | rw [← Ny101.out] at ho13 | (simp only [Int.reduceToNat] at ho13; rw [← Ny101.out] at ho13)); have n0_ := Aside0.mk (Kd.R_lower ho13 (below_size (by repeat (first | (with_reducible first | exact HB.out | apply below_alloc | apply pw_below_drewN | apply below_drew1) | exact HB.out)))); have n1_ := Aside0.mk (below_step (by repeat (first | (with_reducible first | exact HB.out | apply below_alloc | apply pw_below_drewN | apply below_drew1) | exact HB.out)) hb); clear HB; have HO103 := n0_; have HB := n1_; clear n0_ n1_; clear hb ho13; obtain ⟨Ao14, co14, eo14⟩ := Kd.R_slice HO103.out; subst eo14) | ((with_reducible refine gate_callee (f := 24) rfl ?_); refine goesL_ (some 9) rfl rfl Try.func24 (by kernel_rfl) rfl #[.int .i64 2, .int .i64 1, .slice Ao14 y101.length co14] rfl (by (try simp only [List.map_toArray, List.map_cons, List.map_nil]); first | done | rfl | (simp only [List.length_drop, List.length_take]; rfl)) ?_; (with_reducible refine (spec_Run.calls 2 1 _ _ y101 t104 t105 t106 _ ?side1 ?side2 A1.out).mono ?_); (case side1 => repeat (first | exact (Kd.R_reads' HO103.out).2.2 | (with_reducible refine Kd.C_alloc ?_ _) | (with_reducible refine Kd.C_drewN ?_ _) | (with_reducible refine Kd.C_drew ?_))); (case side2 => exact (Kd.R_reads' HO103.out).2.1); rintro e w15 ⟨v107, v109, rfl, ho0, ho1, hb⟩; refine ⟨_, rfl, ?_⟩; have n0_ := Aside0.mk (Kd.R_below (by (with_reducible repeat (first | apply Kd.R_alloc | apply Kd.R_drewN | apply Kd.R_drew)); exact HO103.out) hb); have n1_ := Aside0.mk (Kd.R_lower ho0 (below_size (by repeat (first | (with_reducible first | exact HB.out | apply below_alloc | apply pw_below_drewN | apply below_drew1) | exact HB.out)))); have n2_ := Aside0.mk (Kd.R_lower ho1 (below_size (by repeat (first | (with_reducible first | exact HB.out | apply below_alloc | apply pw_below_drewN | apply below_drew1) | exact HB.out)))); have n3_ := Aside0.mk (below_step (by repeat (first | (with_reducible first | exact HB.out | apply below_alloc | apply pw_below_drewN | apply below_drew1) | exact HB.out)) hb); clear HO103; clear HB; have HO103 := n0_; have HO108 := n1_; have HO110 := n2_; have HB := n3_; clear n0_ n1_ n2_ n3_; (try clear hb); (try clear hb2); (try clear hk); (try clear hi); (try clear ho0); (try clear ho1); obtain ⟨Ao16, co16, eo16⟩ := Kd.R_slice HO108.out; subst eo16; have p111 : 0 ≤ (0 : Int) := (by omega); have q111 : 0 < (t104.length : Int) := of_decide_eq_true (by first | (with_reducible assumption) | assumption); obtain ⟨ad111, e111, hx111_0⟩ := Kd.at_int (Kd.R_reads' HO108.out).2.2 0 p111 q111; cases e111; have qi111 : (0 < t104.length) = True := eq_true (by omega); (try rw [show ((0 : Int)).toNat = 0 from rfl] at hx111_0); (try rw [Addr.add_zero'] at hx111_0); replace p111 := eq_true p111; replace q111 := eq_true q111; have p112 : 0 ≤ (1 : Int) := (by omega); have q112 : 1 < (t104.length : Int) := of_decide_eq_true (by first | (with_reducible assumption) | assumption); obtain ⟨ad112, e112, hx112_0⟩ := Kd.at_int (Kd.R_reads' HO108.out).2.2 1 p112 q112; obtain rfl : ad111 = ad112 := (by injection e112); (try simp only [show (1 : Int).toNat = 1 from rfl, Nat.reduceMul, Nat.reduceEqDiff, Go.Addr.add, ↓reduceIte] at hx112_0); have qi112 : (1 < t104.length) = True := eq_true (by omega); (try rw [show ((1 : Int)).toNat = 1 from rfl] at hx112_0); replace p112 := eq_true p112; replace q112 := eq_true q112; have p113 : 0 ≤ (2 : Int) := (by omega); have q113 : 2 < (t104.length : Int) := of_decide_eq_true (by first | (with_reducible assumption) | assumption); obtain ⟨ad113, e113, hx113_0⟩ := Kd.at_int (Kd.R_reads' HO108.out).2.2 2 p113 q113; obtain rfl : ad111 = ad113 := (by injection e113); (try simp only [show (2 : Int).toNat = 2 from rfl, Nat.reduceMul, Nat.reduceEqDiff, Go.Addr.add, ↓reduceIte] at hx113_0); have qi113 : (2 < t104.length) = True := eq_true (by omega); (try rw [show ((2 : Int)).toNat = 2 from rfl] at hx113_0); replace p113 := eq_true p113; replace q113 := eq_true q113; obtain ⟨Ao17, co17, eo17⟩ := Kd.R_slice HO110.out; subst eo17; have p114 : 0 ≤ (0 : Int) := (by omega); have q114 : 0 < (t105.length : Int) := of_decide_eq_true (by first | (with_reducible assumption) | assumption); obtain ⟨ad114, e114, hx114_0⟩ := Kd.at_int (Kd.R_reads' HO110.out).2.2 0 p114 q114; cases e114; have qi114 : (0 < t105.length) = True := eq_true (by omega); (try rw [show ((0 : Int)).toNat = 0 from rfl] at hx114_0); (try rw [Addr.add_zero'] at hx114_0); replace p114 := eq_true p114; replace q114 := eq_true q114))
                      go_ret
                      exact ⟨by first | rfl | (simp [errW_none, errW_some] <;> rfl) | (simp [*, errW_none, errW_some] <;> rfl), by repeat (first | (with_reducible first | exact HB.out | apply below_alloc | apply pw_below_drewN | apply below_drew1) | exact HB.out)⟩
                    · rw [if_neg c11] at H
                      have c11b0 : ((rd t105 0) == 6) = false := beq_eq_false_iff_ne.mpr c11
                      have c11b1 : ((rd t105 0) != 6) = true := bne_iff_ne.mpr c11
                      obtain rfl := Option.some.inj H
                      go_enter Try.func15, Try.ntmps15
                      go_wp2_with (first | ((with_reducible refine gate_dst (N := 8) rfl ?_); (try (refine gate_guard (by rfl) ?_; dsimp only)); refine Kd.R_lit k27 _ 27 ?hg (N := 8) ?hd (xs := ([(⟨(⟨#[101, 110, 113]⟩ : ByteArray), 5, 0⟩ : S27), (⟨(⟨#[101, 110, 113]⟩ : ByteArray), 6, 0⟩ : S27), (⟨(⟨#[100, 101, 113]⟩ : ByteArray), 0, 0⟩ : S27)] : List (S27))) (inner := [.string (⟨#[101, 110, 113]⟩ : ByteArray), .int .i64 5, .int .i64 0, .string (⟨#[101, 110, 113]⟩ : ByteArray), .int .i64 6, .int .i64 0, .string (⟨#[100, 101, 113]⟩ : ByteArray), .int .i64 0, .int .i64 0]) (ok := fun _ => True) (okp := fun _ => True) ?hr ?hp (fun _ hk => hk) trivial (Below.refl _ _) (Nat.le_refl _) (by simp) ?_; (case hd => rfl); (case hg => rfl); (case hr => first | (go_simp; done) | (go_simp; rfl)); (case hp => exact (Reps.c3 (show Kd.M k27 _ _ _ (⟨(⟨#[101, 110, 113]⟩ : ByteArray), 5, 0⟩ : S27) [.string (⟨#[101, 110, 113]⟩ : ByteArray), .int .i64 5, .int .i64 0] from (k27_mkM _ _ _ (⟨(⟨#[101, 110, 113]⟩ : ByteArray), 5, 0⟩ : S27) )) (Reps.c3 (show Kd.M k27 _ _ _ (⟨(⟨#[101, 110, 113]⟩ : ByteArray), 6, 0⟩ : S27) [.string (⟨#[101, 110, 113]⟩ : ByteArray), .int .i64 6, .int .i64 0] from (k27_mkM _ _ _ (⟨(⟨#[101, 110, 113]⟩ : ByteArray), 6, 0⟩ : S27) )) (Reps.c3 (show Kd.M k27 _ _ _ (⟨(⟨#[100, 101, 113]⟩ : ByteArray), 0, 0⟩ : S27) [.string (⟨#[100, 101, 113]⟩ : ByteArray), .int .i64 0, .int .i64 0] from (k27_mkM _ _ _ (⟨(⟨#[100, 101, 113]⟩ : ByteArray), 0, 0⟩ : S27) )) (Reps.none _ _))))); intro v102 w18 ho19 hb hg_ hnew_; clear hg_ hnew_; (first | rw [← Ny101.out] at ho19 | (simp only [Int.reduceToNat] at ho19; rw [← Ny101.out] at ho19)); have n0_ := Aside0.mk (Kd.R_lower ho19 (below_size (by repeat (first | (with_reducible first | exact HB.out | apply below_alloc | apply pw_below_drewN | apply below_drew1) | exact HB.out)))); have n1_ := Aside0.mk (below_step (by repeat (first | (with_reducible first | exact HB.out | apply below_alloc | apply pw_below_drewN | apply below_drew1) | exact HB.out)) hb); clear HB; have HO103 := n0_; have HB := n1_; clear n0_ n1_; clear hb ho19; obtain ⟨Ao20, co20, eo20⟩ := Kd.R_slice HO103.out; subst eo20) | ((with_reducible refine gate_callee (f := 24) rfl ?_); refine goesL_ (some 9) rfl rfl Try.func24 (by kernel_rfl) rfl #[.int .i64 2, .int .i64 1, .slice Ao20 y101.length co20] rfl (by (try simp only [List.map_toArray, List.map_cons, List.map_nil]); first | done | rfl | (simp only [List.length_drop, List.length_take]; rfl)) ?_; (with_reducible refine (spec_Run.calls 2 1 _ _ y101 t104 t105 t106 _ ?side1 ?side2 A1.out).mono ?_); (case side1 => repeat (first | exact (Kd.R_reads' HO103.out).2.2 | (with_reducible refine Kd.C_alloc ?_ _) | (with_reducible refine Kd.C_drewN ?_ _) | (with_reducible refine Kd.C_drew ?_))); (case side2 => exact (Kd.R_reads' HO103.out).2.1); rintro e w21 ⟨v107, v109, rfl, ho0, ho1, hb⟩; refine ⟨_, rfl, ?_⟩; have n0_ := Aside0.mk (Kd.R_below (by (with_reducible repeat (first | apply Kd.R_alloc | apply Kd.R_drewN | apply Kd.R_drew)); exact HO103.out) hb); have n1_ := Aside0.mk (Kd.R_lower ho0 (below_size (by repeat (first | (with_reducible first | exact HB.out | apply below_alloc | apply pw_below_drewN | apply below_drew1) | exact HB.out)))); have n2_ := Aside0.mk (Kd.R_lower ho1 (below_size (by repeat (first | (with_reducible first | exact HB.out | apply below_alloc | apply pw_below_drewN | apply below_drew1) | exact HB.out)))); have n3_ := Aside0.mk (below_step (by repeat (first | (with_reducible first | exact HB.out | apply below_alloc | apply pw_below_drewN | apply below_drew1) | exact HB.out)) hb); clear HO103; clear HB; have HO103 := n0_; have HO108 := n1_; have HO110 := n2_; have HB := n3_; clear n0_ n1_ n2_ n3_; (try clear hb); (try clear hb2); (try clear hk); (try clear hi); (try clear ho0); (try clear ho1); obtain ⟨Ao22, co22, eo22⟩ := Kd.R_slice HO108.out; subst eo22; have p111 : 0 ≤ (0 : Int) := (by omega); have q111 : 0 < (t104.length : Int) := of_decide_eq_true (by first | (with_reducible assumption) | assumption); obtain ⟨ad111, e111, hx111_0⟩ := Kd.at_int (Kd.R_reads' HO108.out).2.2 0 p111 q111; cases e111; have qi111 : (0 < t104.length) = True := eq_true (by omega); (try rw [show ((0 : Int)).toNat = 0 from rfl] at hx111_0); (try rw [Addr.add_zero'] at hx111_0); replace p111 := eq_true p111; replace q111 := eq_true q111; have p112 : 0 ≤ (1 : Int) := (by omega); have q112 : 1 < (t104.length : Int) := of_decide_eq_true (by first | (with_reducible assumption) | assumption); obtain ⟨ad112, e112, hx112_0⟩ := Kd.at_int (Kd.R_reads' HO108.out).2.2 1 p112 q112; obtain rfl : ad111 = ad112 := (by injection e112); (try simp only [show (1 : Int).toNat = 1 from rfl, Nat.reduceMul, Nat.reduceEqDiff, Go.Addr.add, ↓reduceIte] at hx112_0); have qi112 : (1 < t104.length) = True := eq_true (by omega); (try rw [show ((1 : Int)).toNat = 1 from rfl] at hx112_0); replace p112 := eq_true p112; replace q112 := eq_true q112; have p113 : 0 ≤ (2 : Int) := (by omega); have q113 : 2 < (t104.length : Int) := of_decide_eq_true (by first | (with_reducible assumption) | assumption); obtain ⟨ad113, e113, hx113_0⟩ := Kd.at_int (Kd.R_reads' HO108.out).2.2 2 p113 q113; obtain rfl : ad111 = ad113 := (by injection e113); (try simp only [show (2 : Int).toNat = 2 from rfl, Nat.reduceMul, Nat.reduceEqDiff, Go.Addr.add, ↓reduceIte] at hx113_0); have qi113 : (2 < t104.length) = True := eq_true (by omega); (try rw [show ((2 : Int)).toNat = 2 from rfl] at hx113_0); replace p113 := eq_true p113; replace q113 := eq_true q113; obtain ⟨Ao23, co23, eo23⟩ := Kd.R_slice HO110.out; subst eo23; have p114 : 0 ≤ (0 : Int) := (by omega); have q114 : 0 < (t105.length : Int) := of_decide_eq_true (by first | (with_reducible assumption) | assumption); obtain ⟨ad114, e114, hx114_0⟩ := Kd.at_int (Kd.R_reads' HO110.out).2.2 0 p114 q114; cases e114; have qi114 : (0 < t105.length) = True := eq_true (by omega); (try rw [show ((0 : Int)).toNat = 0 from rfl] at hx114_0); (try rw [Addr.add_zero'] at hx114_0); replace p114 := eq_true p114; replace q114 := eq_true q114))
                      go_ret
                      exact ⟨by first | rfl | (simp [errW_none, errW_some] <;> rfl) | (simp [*, errW_none, errW_some] <;> rfl), by repeat (first | (with_reducible first | exact HB.out | apply below_alloc | apply pw_below_drewN | apply below_drew1) | exact HB.out)⟩
                  · rw [if_neg c10] at H
                    exact absurd H (by simp)
                · rw [if_neg c9] at H
                  have c9b0 : ((t105.length : Int) == 1) = false := beq_eq_false_iff_ne.mpr c9
                  have c9b1 : ((t105.length : Int) != 1) = true := bne_iff_ne.mpr c9
                  obtain rfl := Option.some.inj H
                  go_enter Try.func15, Try.ntmps15
                  go_wp2_with (first | ((with_reducible refine gate_dst (N := 8) rfl ?_); (try (refine gate_guard (by rfl) ?_; dsimp only)); refine Kd.R_lit k27 _ 27 ?hg (N := 8) ?hd (xs := ([(⟨(⟨#[101, 110, 113]⟩ : ByteArray), 5, 0⟩ : S27), (⟨(⟨#[101, 110, 113]⟩ : ByteArray), 6, 0⟩ : S27), (⟨(⟨#[100, 101, 113]⟩ : ByteArray), 0, 0⟩ : S27)] : List (S27))) (inner := [.string (⟨#[101, 110, 113]⟩ : ByteArray), .int .i64 5, .int .i64 0, .string (⟨#[101, 110, 113]⟩ : ByteArray), .int .i64 6, .int .i64 0, .string (⟨#[100, 101, 113]⟩ : ByteArray), .int .i64 0, .int .i64 0]) (ok := fun _ => True) (okp := fun _ => True) ?hr ?hp (fun _ hk => hk) trivial (Below.refl _ _) (Nat.le_refl _) (by simp) ?_; (case hd => rfl); (case hg => rfl); (case hr => first | (go_simp; done) | (go_simp; rfl)); (case hp => exact (Reps.c3 (show Kd.M k27 _ _ _ (⟨(⟨#[101, 110, 113]⟩ : ByteArray), 5, 0⟩ : S27) [.string (⟨#[101, 110, 113]⟩ : ByteArray), .int .i64 5, .int .i64 0] from (k27_mkM _ _ _ (⟨(⟨#[101, 110, 113]⟩ : ByteArray), 5, 0⟩ : S27) )) (Reps.c3 (show Kd.M k27 _ _ _ (⟨(⟨#[101, 110, 113]⟩ : ByteArray), 6, 0⟩ : S27) [.string (⟨#[101, 110, 113]⟩ : ByteArray), .int .i64 6, .int .i64 0] from (k27_mkM _ _ _ (⟨(⟨#[101, 110, 113]⟩ : ByteArray), 6, 0⟩ : S27) )) (Reps.c3 (show Kd.M k27 _ _ _ (⟨(⟨#[100, 101, 113]⟩ : ByteArray), 0, 0⟩ : S27) [.string (⟨#[100, 101, 113]⟩ : ByteArray), .int .i64 0, .int .i64 0] from (k27_mkM _ _ _ (⟨(⟨#[100, 101, 113]⟩ : ByteArray), 0, 0⟩ : S27) )) (Reps.none _ _))))); intro v102 w24 ho25 hb hg_ hnew_; clear hg_ hnew_; (first | rw [← Ny101.out] at ho25 | (simp only [Int.reduceToNat] at ho25; rw [← Ny101.out] at ho25)); have n0_ := Aside0.mk (Kd.R_lower ho25 (below_size (by repeat (first | (with_reducible first | exact HB.out | apply below_alloc | apply pw_below_drewN | apply below_drew1) | exact HB.out)))); have n1_ := Aside0.mk (below_step (by repeat (first | (with_reducible first | exact HB.out | apply below_alloc | apply pw_below_drewN | apply below_drew1) | exact HB.out)) hb); clear HB; have HO103 := n0_; have HB := n1_; clear n0_ n1_; clear hb ho25; obtain ⟨Ao26, co26, eo26⟩ := Kd.R_slice HO103.out; subst eo26) | ((with_reducible refine gate_callee (f := 24) rfl ?_); refine goesL_ (some 9) rfl rfl Try.func24 (by kernel_rfl) rfl #[.int .i64 2, .int .i64 1, .slice Ao26 y101.length co26] rfl (by (try simp only [List.map_toArray, List.map_cons, List.map_nil]); first | done | rfl | (simp only [List.length_drop, List.length_take]; rfl)) ?_; (with_reducible refine (spec_Run.calls 2 1 _ _ y101 t104 t105 t106 _ ?side1 ?side2 A1.out).mono ?_); (case side1 => repeat (first | exact (Kd.R_reads' HO103.out).2.2 | (with_reducible refine Kd.C_alloc ?_ _) | (with_reducible refine Kd.C_drewN ?_ _) | (with_reducible refine Kd.C_drew ?_))); (case side2 => exact (Kd.R_reads' HO103.out).2.1); rintro e w27 ⟨v107, v109, rfl, ho0, ho1, hb⟩; refine ⟨_, rfl, ?_⟩; have n0_ := Aside0.mk (Kd.R_below (by (with_reducible repeat (first | apply Kd.R_alloc | apply Kd.R_drewN | apply Kd.R_drew)); exact HO103.out) hb); have n1_ := Aside0.mk (Kd.R_lower ho0 (below_size (by repeat (first | (with_reducible first | exact HB.out | apply below_alloc | apply pw_below_drewN | apply below_drew1) | exact HB.out)))); have n2_ := Aside0.mk (Kd.R_lower ho1 (below_size (by repeat (first | (with_reducible first | exact HB.out | apply below_alloc | apply pw_below_drewN | apply below_drew1) | exact HB.out)))); have n3_ := Aside0.mk (below_step (by repeat (first | (with_reducible first | exact HB.out | apply below_alloc | apply pw_below_drewN | apply below_drew1) | exact HB.out)) hb); clear HO103; clear HB; have HO103 := n0_; have HO108 := n1_; have HO110 := n2_; have HB := n3_; clear n0_ n1_ n2_ n3_; (try clear hb); (try clear hb2); (try clear hk); (try clear hi); (try clear ho0); (try clear ho1); obtain ⟨Ao28, co28, eo28⟩ := Kd.R_slice HO108.out; subst eo28; have p111 : 0 ≤ (0 : Int) := (by omega); have q111 : 0 < (t104.length : Int) := of_decide_eq_true (by first | (with_reducible assumption) | assumption); obtain ⟨ad111, e111, hx111_0⟩ := Kd.at_int (Kd.R_reads' HO108.out).2.2 0 p111 q111; cases e111; have qi111 : (0 < t104.length) = True := eq_true (by omega); (try rw [show ((0 : Int)).toNat = 0 from rfl] at hx111_0); (try rw [Addr.add_zero'] at hx111_0); replace p111 := eq_true p111; replace q111 := eq_true q111; have p112 : 0 ≤ (1 : Int) := (by omega); have q112 : 1 < (t104.length : Int) := of_decide_eq_true (by first | (with_reducible assumption) | assumption); obtain ⟨ad112, e112, hx112_0⟩ := Kd.at_int (Kd.R_reads' HO108.out).2.2 1 p112 q112; obtain rfl : ad111 = ad112 := (by injection e112); (try simp only [show (1 : Int).toNat = 1 from rfl, Nat.reduceMul, Nat.reduceEqDiff, Go.Addr.add, ↓reduceIte] at hx112_0); have qi112 : (1 < t104.length) = True := eq_true (by omega); (try rw [show ((1 : Int)).toNat = 1 from rfl] at hx112_0); replace p112 := eq_true p112; replace q112 := eq_true q112; have p113 : 0 ≤ (2 : Int) := (by omega); have q113 : 2 < (t104.length : Int) := of_decide_eq_true (by first | (with_reducible assumption) | assumption); obtain ⟨ad113, e113, hx113_0⟩ := Kd.at_int (Kd.R_reads' HO108.out).2.2 2 p113 q113; obtain rfl : ad111 = ad113 := (by injection e113); (try simp only [show (2 : Int).toNat = 2 from rfl, Nat.reduceMul, Nat.reduceEqDiff, Go.Addr.add, ↓reduceIte] at hx113_0); have qi113 : (2 < t104.length) = True := eq_true (by omega); (try rw [show ((2 : Int)).toNat = 2 from rfl] at hx113_0); replace p113 := eq_true p113; replace q113 := eq_true q113; obtain ⟨Ao29, co29, eo29⟩ := Kd.R_slice HO110.out; subst eo29))
                  go_ret
                  exact ⟨by first | rfl | (simp [errW_none, errW_some] <;> rfl) | (simp [*, errW_none, errW_some] <;> rfl), by repeat (first | (with_reducible first | exact HB.out | apply below_alloc | apply pw_below_drewN | apply below_drew1) | exact HB.out)⟩
              · rw [if_neg c8] at H
                have c8b0 : ((rd t104 2) == 5) = false := beq_eq_false_iff_ne.mpr c8
                have c8b1 : ((rd t104 2) != 5) = true := bne_iff_ne.mpr c8
                obtain rfl := Option.some.inj H
                go_enter Try.func15, Try.ntmps15
                go_wp2_with (first | ((with_reducible refine gate_dst (N := 8) rfl ?_); (try (refine gate_guard (by rfl) ?_; dsimp only)); refine Kd.R_lit k27 _ 27 ?hg (N := 8) ?hd (xs := ([(⟨(⟨#[101, 110, 113]⟩ : ByteArray), 5, 0⟩ : S27), (⟨(⟨#[101, 110, 113]⟩ : ByteArray), 6, 0⟩ : S27), (⟨(⟨#[100, 101, 113]⟩ : ByteArray), 0, 0⟩ : S27)] : List (S27))) (inner := [.string (⟨#[101, 110, 113]⟩ : ByteArray), .int .i64 5, .int .i64 0, .string (⟨#[101, 110, 113]⟩ : ByteArray), .int .i64 6, .int .i64 0, .string (⟨#[100, 101, 113]⟩ : ByteArray), .int .i64 0, .int .i64 0]) (ok := fun _ => True) (okp := fun _ => True) ?hr ?hp (fun _ hk => hk) trivial (Below.refl _ _) (Nat.le_refl _) (by simp) ?_; (case hd => rfl); (case hg => rfl); (case hr => first | (go_simp; done) | (go_simp; rfl)); (case hp => exact (Reps.c3 (show Kd.M k27 _ _ _ (⟨(⟨#[101, 110, 113]⟩ : ByteArray), 5, 0⟩ : S27) [.string (⟨#[101, 110, 113]⟩ : ByteArray), .int .i64 5, .int .i64 0] from (k27_mkM _ _ _ (⟨(⟨#[101, 110, 113]⟩ : ByteArray), 5, 0⟩ : S27) )) (Reps.c3 (show Kd.M k27 _ _ _ (⟨(⟨#[101, 110, 113]⟩ : ByteArray), 6, 0⟩ : S27) [.string (⟨#[101, 110, 113]⟩ : ByteArray), .int .i64 6, .int .i64 0] from (k27_mkM _ _ _ (⟨(⟨#[101, 110, 113]⟩ : ByteArray), 6, 0⟩ : S27) )) (Reps.c3 (show Kd.M k27 _ _ _ (⟨(⟨#[100, 101, 113]⟩ : ByteArray), 0, 0⟩ : S27) [.string (⟨#[100, 101, 113]⟩ : ByteArray), .int .i64 0, .int .i64 0] from (k27_mkM _ _ _ (⟨(⟨#[100, 101, 113]⟩ : ByteArray), 0, 0⟩ : S27) )) (Reps.none _ _))))); intro v102 w30 ho31 hb hg_ hnew_; clear hg_ hnew_; (first | rw [← Ny101.out] at ho31 | (simp only [Int.reduceToNat] at ho31; rw [← Ny101.out] at ho31)); have n0_ := Aside0.mk (Kd.R_lower ho31 (below_size (by repeat (first | (with_reducible first | exact HB.out | apply below_alloc | apply pw_below_drewN | apply below_drew1) | exact HB.out)))); have n1_ := Aside0.mk (below_step (by repeat (first | (with_reducible first | exact HB.out | apply below_alloc | apply pw_below_drewN | apply below_drew1) | exact HB.out)) hb); clear HB; have HO103 := n0_; have HB := n1_; clear n0_ n1_; clear hb ho31; obtain ⟨Ao32, co32, eo32⟩ := Kd.R_slice HO103.out; subst eo32) | ((with_reducible refine gate_callee (f := 24) rfl ?_); refine goesL_ (some 9) rfl rfl Try.func24 (by kernel_rfl) rfl #[.int .i64 2, .int .i64 1, .slice Ao32 y101.length co32] rfl (by (try simp only [List.map_toArray, List.map_cons, List.map_nil]); first | done | rfl | (simp only [List.length_drop, List.length_take]; rfl)) ?_; (with_reducible refine (spec_Run.calls 2 1 _ _ y101 t104 t105 t106 _ ?side1 ?side2 A1.out).mono ?_); (case side1 => repeat (first | exact (Kd.R_reads' HO103.out).2.2 | (with_reducible refine Kd.C_alloc ?_ _) | (with_reducible refine Kd.C_drewN ?_ _) | (with_reducible refine Kd.C_drew ?_))); (case side2 => exact (Kd.R_reads' HO103.out).2.1); rintro e w33 ⟨v107, v109, rfl, ho0, ho1, hb⟩; refine ⟨_, rfl, ?_⟩; have n0_ := Aside0.mk (Kd.R_below (by (with_reducible repeat (first | apply Kd.R_alloc | apply Kd.R_drewN | apply Kd.R_drew)); exact HO103.out) hb); have n1_ := Aside0.mk (Kd.R_lower ho0 (below_size (by repeat (first | (with_reducible first | exact HB.out | apply below_alloc | apply pw_below_drewN | apply below_drew1) | exact HB.out)))); have n2_ := Aside0.mk (Kd.R_lower ho1 (below_size (by repeat (first | (with_reducible first | exact HB.out | apply below_alloc | apply pw_below_drewN | apply below_drew1) | exact HB.out)))); have n3_ := Aside0.mk (below_step (by repeat (first | (with_reducible first | exact HB.out | apply below_alloc | apply pw_below_drewN | apply below_drew1) | exact HB.out)) hb); clear HO103; clear HB; have HO103 := n0_; have HO108 := n1_; have HO110 := n2_; have HB := n3_; clear n0_ n1_ n2_ n3_; (try clear hb); (try clear hb2); (try clear hk); (try clear hi); (try clear ho0); (try clear ho1); obtain ⟨Ao34, co34, eo34⟩ := Kd.R_slice HO108.out; subst eo34; have p111 : 0 ≤ (0 : Int) := (by omega); have q111 : 0 < (t104.length : Int) := of_decide_eq_true (by first | (with_reducible assumption) | assumption); obtain ⟨ad111, e111, hx111_0⟩ := Kd.at_int (Kd.R_reads' HO108.out).2.2 0 p111 q111; cases e111; have qi111 : (0 < t104.length) = True := eq_true (by omega); (try rw [show ((0 : Int)).toNat = 0 from rfl] at hx111_0); (try rw [Addr.add_zero'] at hx111_0); replace p111 := eq_true p111; replace q111 := eq_true q111; have p112 : 0 ≤ (1 : Int) := (by omega); have q112 : 1 < (t104.length : Int) := of_decide_eq_true (by first | (with_reducible assumption) | assumption); obtain ⟨ad112, e112, hx112_0⟩ := Kd.at_int (Kd.R_reads' HO108.out).2.2 1 p112 q112; obtain rfl : ad111 = ad112 := (by injection e112); (try simp only [show (1 : Int).toNat = 1 from rfl, Nat.reduceMul, Nat.reduceEqDiff, Go.Addr.add, ↓reduceIte] at hx112_0); have qi112 : (1 < t104.length) = True := eq_true (by omega); (try rw [show ((1 : Int)).toNat = 1 from rfl] at hx112_0); replace p112 := eq_true p112; replace q112 := eq_true q112; have p113 : 0 ≤ (2 : Int) := (by omega); have q113 : 2 < (t104.length : Int) := of_decide_eq_true (by first | (with_reducible assumption) | assumption); obtain ⟨ad113, e113, hx113_0⟩ := Kd.at_int (Kd.R_reads' HO108.out).2.2 2 p113 q113; obtain rfl : ad111 = ad113 := (by injection e113); (try simp only [show (2 : Int).toNat = 2 from rfl, Nat.reduceMul, Nat.reduceEqDiff, Go.Addr.add, ↓reduceIte] at hx113_0); have qi113 : (2 < t104.length) = True := eq_true (by omega); (try rw [show ((2 : Int)).toNat = 2 from rfl] at hx113_0); replace p113 := eq_true p113; replace q113 := eq_true q113))
                go_ret
                exact ⟨by first | rfl | (simp [errW_none, errW_some] <;> rfl) | (simp [*, errW_none, errW_some] <;> rfl), by repeat (first | (with_reducible first | exact HB.out | apply below_alloc | apply pw_below_drewN | apply below_drew1) | exact HB.out)⟩
            · rw [if_neg c7] at H
              exact absurd H (by simp)
          · rw [if_neg c6] at H
            have c6b0 : ((rd t104 1) == 0) = false := beq_eq_false_iff_ne.mpr c6
            have c6b1 : ((rd t104 1) != 0) = true := bne_iff_ne.mpr c6
            obtain rfl := Option.some.inj H
            go_enter Try.func15, Try.ntmps15
            go_wp2_with (first | ((with_reducible refine gate_dst (N := 8) rfl ?_); (try (refine gate_guard (by rfl) ?_; dsimp only)); refine Kd.R_lit k27 _ 27 ?hg (N := 8) ?hd (xs := ([(⟨(⟨#[101, 110, 113]⟩ : ByteArray), 5, 0⟩ : S27), (⟨(⟨#[101, 110, 113]⟩ : ByteArray), 6, 0⟩ : S27), (⟨(⟨#[100, 101, 113]⟩ : ByteArray), 0, 0⟩ : S27)] : List (S27))) (inner := [.string (⟨#[101, 110, 113]⟩ : ByteArray), .int .i64 5, .int .i64 0, .string (⟨#[101, 110, 113]⟩ : ByteArray), .int .i64 6, .int .i64 0, .string (⟨#[100, 101, 113]⟩ : ByteArray), .int .i64 0, .int .i64 0]) (ok := fun _ => True) (okp := fun _ => True) ?hr ?hp (fun _ hk => hk) trivial (Below.refl _ _) (Nat.le_refl _) (by simp) ?_; (case hd => rfl); (case hg => rfl); (case hr => first | (go_simp; done) | (go_simp; rfl)); (case hp => exact (Reps.c3 (show Kd.M k27 _ _ _ (⟨(⟨#[101, 110, 113]⟩ : ByteArray), 5, 0⟩ : S27) [.string (⟨#[101, 110, 113]⟩ : ByteArray), .int .i64 5, .int .i64 0] from (k27_mkM _ _ _ (⟨(⟨#[101, 110, 113]⟩ : ByteArray), 5, 0⟩ : S27) )) (Reps.c3 (show Kd.M k27 _ _ _ (⟨(⟨#[101, 110, 113]⟩ : ByteArray), 6, 0⟩ : S27) [.string (⟨#[101, 110, 113]⟩ : ByteArray), .int .i64 6, .int .i64 0] from (k27_mkM _ _ _ (⟨(⟨#[101, 110, 113]⟩ : ByteArray), 6, 0⟩ : S27) )) (Reps.c3 (show Kd.M k27 _ _ _ (⟨(⟨#[100, 101, 113]⟩ : ByteArray), 0, 0⟩ : S27) [.string (⟨#[100, 101, 113]⟩ : ByteArray), .int .i64 0, .int .i64 0] from (k27_mkM _ _ _ (⟨(⟨#[100, 101, 113]⟩ : ByteArray), 0, 0⟩ : S27) )) (Reps.none _ _))))); intro v102 w35 ho36 hb hg_ hnew_; clear hg_ hnew_; (first | rw [← Ny101.out] at ho36 | (simp only [Int.reduceToNat] at ho36; rw [← Ny101.out] at ho36)); have n0_ := Aside0.mk (Kd.R_lower ho36 (below_size (by repeat (first | (with_reducible first | exact HB.out | apply below_alloc | apply pw_below_drewN | apply below_drew1) | exact HB.out)))); have n1_ := Aside0.mk (below_step (by repeat (first | (with_reducible first | exact HB.out | apply below_alloc | apply pw_below_drewN | apply below_drew1) | exact HB.out)) hb); clear HB; have HO103 := n0_; have HB := n1_; clear n0_ n1_; clear hb ho36; obtain ⟨Ao37, co37, eo37⟩ := Kd.R_slice HO103.out; subst eo37) | ((with_reducible refine gate_callee (f := 24) rfl ?_); refine goesL_ (some 9) rfl rfl Try.func24 (by kernel_rfl) rfl #[.int .i64 2, .int .i64 1, .slice Ao37 y101.length co37] rfl (by (try simp only [List.map_toArray, List.map_cons, List.map_nil]); first | done | rfl | (simp only [List.length_drop, List.length_take]; rfl)) ?_; (with_reducible refine (spec_Run.calls 2 1 _ _ y101 t104 t105 t106 _ ?side1 ?side2 A1.out).mono ?_); (case side1 => repeat (first | exact (Kd.R_reads' HO103.out).2.2 | (with_reducible refine Kd.C_alloc ?_ _) | (with_reducible refine Kd.C_drewN ?_ _) | (with_reducible refine Kd.C_drew ?_))); (case side2 => exact (Kd.R_reads' HO103.out).2.1); rintro e w38 ⟨v107, v109, rfl, ho0, ho1, hb⟩; refine ⟨_, rfl, ?_⟩; have n0_ := Aside0.mk (Kd.R_below (by (with_reducible repeat (first | apply Kd.R_alloc | apply Kd.R_drewN | apply Kd.R_drew)); exact HO103.out) hb); have n1_ := Aside0.mk (Kd.R_lower ho0 (below_size (by repeat (first | (with_reducible first | exact HB.out | apply below_alloc | apply pw_below_drewN | apply below_drew1) | exact HB.out)))); have n2_ := Aside0.mk (Kd.R_lower ho1 (below_size (by repeat (first | (with_reducible first | exact HB.out | apply below_alloc | apply pw_below_drewN | apply below_drew1) | exact HB.out)))); have n3_ := Aside0.mk (below_step (by repeat (first | (with_reducible first | exact HB.out | apply below_alloc | apply pw_below_drewN | apply below_drew1) | exact HB.out)) hb); clear HO103; clear HB; have HO103 := n0_; have HO108 := n1_; have HO110 := n2_; have HB := n3_; clear n0_ n1_ n2_ n3_; (try clear hb); (try clear hb2); (try clear hk); (try clear hi); (try clear ho0); (try clear ho1); obtain ⟨Ao39, co39, eo39⟩ := Kd.R_slice HO108.out; subst eo39; have p111 : 0 ≤ (0 : Int) := (by omega); have q111 : 0 < (t104.length : Int) := of_decide_eq_true (by first | (with_reducible assumption) | assumption); obtain ⟨ad111, e111, hx111_0⟩ := Kd.at_int (Kd.R_reads' HO108.out).2.2 0 p111 q111; cases e111; have qi111 : (0 < t104.length) = True := eq_true (by omega); (try rw [show ((0 : Int)).toNat = 0 from rfl] at hx111_0); (try rw [Addr.add_zero'] at hx111_0); replace p111 := eq_true p111; replace q111 := eq_true q111; have p112 : 0 ≤ (1 : Int) := (by omega); have q112 : 1 < (t104.length : Int) := of_decide_eq_true (by first | (with_reducible assumption) | assumption); obtain ⟨ad112, e112, hx112_0⟩ := Kd.at_int (Kd.R_reads' HO108.out).2.2 1 p112 q112; obtain rfl : ad111 = ad112 := (by injection e112); (try simp only [show (1 : Int).toNat = 1 from rfl, Nat.reduceMul, Nat.reduceEqDiff, Go.Addr.add, ↓reduceIte] at hx112_0); have qi112 : (1 < t104.length) = True := eq_true (by omega); (try rw [show ((1 : Int)).toNat = 1 from rfl] at hx112_0); replace p112 := eq_true p112; replace q112 := eq_true q112))
            go_ret
            exact ⟨by first | rfl | (simp [errW_none, errW_some] <;> rfl) | (simp [*, errW_none, errW_some] <;> rfl), by repeat (first | (with_reducible first | exact HB.out | apply below_alloc | apply pw_below_drewN | apply below_drew1) | exact HB.out)⟩
        · rw [if_neg c5] at H
          exact absurd H (by simp)
      · rw [if_neg c4] at H
        have c4b0 : ((rd t104 0) == 0) = false := beq_eq_false_iff_ne.mpr c4
        have c4b1 : ((rd t104 0) != 0) = true := bne_iff_ne.mpr c4
        obtain rfl := Option.some.inj H
        go_enter Try.func15, Try.ntmps15
        go_wp2_with (first | ((with_reducible refine gate_dst (N := 8) rfl ?_); (try (refine gate_guard (by rfl) ?_; dsimp only)); refine Kd.R_lit k27 _ 27 ?hg (N := 8) ?hd (xs := ([(⟨(⟨#[101, 110, 113]⟩ : ByteArray), 5, 0⟩ : S27), (⟨(⟨#[101, 110, 113]⟩ : ByteArray), 6, 0⟩ : S27), (⟨(⟨#[100, 101, 113]⟩ : ByteArray), 0, 0⟩ : S27)] : List (S27))) (inner := [.string (⟨#[101, 110, 113]⟩ : ByteArray), .int .i64 5, .int .i64 0, .string (⟨#[101, 110, 113]⟩ : ByteArray), .int .i64 6, .int .i64 0, .string (⟨#[100, 101, 113]⟩ : ByteArray), .int .i64 0, .int .i64 0]) (ok := fun _ => True) (okp := fun _ => True) ?hr ?hp (fun _ hk => hk) trivial (Below.refl _ _) (Nat.le_refl _) (by simp) ?_; (case hd => rfl); (case hg => rfl); (case hr => first | (go_simp; done) | (go_simp; rfl)); (case hp => exact (Reps.c3 (show Kd.M k27 _ _ _ (⟨(⟨#[101, 110, 113]⟩ : ByteArray), 5, 0⟩ : S27) [.string (⟨#[101, 110, 113]⟩ : ByteArray), .int .i64 5, .int .i64 0] from (k27_mkM _ _ _ (⟨(⟨#[101, 110, 113]⟩ : ByteArray), 5, 0⟩ : S27) )) (Reps.c3 (show Kd.M k27 _ _ _ (⟨(⟨#[101, 110, 113]⟩ : ByteArray), 6, 0⟩ : S27) [.string (⟨#[101, 110, 113]⟩ : ByteArray), .int .i64 6, .int .i64 0] from (k27_mkM _ _ _ (⟨(⟨#[101, 110, 113]⟩ : ByteArray), 6, 0⟩ : S27) )) (Reps.c3 (show Kd.M k27 _ _ _ (⟨(⟨#[100, 101, 113]⟩ : ByteArray), 0, 0⟩ : S27) [.string (⟨#[100, 101, 113]⟩ : ByteArray), .int .i64 0, .int .i64 0] from (k27_mkM _ _ _ (⟨(⟨#[100, 101, 113]⟩ : ByteArray), 0, 0⟩ : S27) )) (Reps.none _ _))))); intro v102 w40 ho41 hb hg_ hnew_; clear hg_ hnew_; (first | rw [← Ny101.out] at ho41 | (simp only [Int.reduceToNat] at ho41; rw [← Ny101.out] at ho41)); have n0_ := Aside0.mk (Kd.R_lower ho41 (below_size (by repeat (first | (with_reducible first | exact HB.out | apply below_alloc | apply pw_below_drewN | apply below_drew1) | exact HB.out)))); have n1_ := Aside0.mk (below_step (by repeat (first | (with_reducible first | exact HB.out | apply below_alloc | apply pw_below_drewN | apply below_drew1) | exact HB.out)) hb); clear HB; have HO103 := n0_; have HB := n1_; clear n0_ n1_; clear hb ho41; obtain ⟨Ao42, co42, eo42⟩ := Kd.R_slice HO103.out; subst eo42) | ((with_reducible refine gate_callee (f := 24) rfl ?_); refine goesL_ (some 9) rfl rfl Try.func24 (by kernel_rfl) rfl #[.int .i64 2, .int .i64 1, .slice Ao42 y101.length co42] rfl (by (try simp only [List.map_toArray, List.map_cons, List.map_nil]); first | done | rfl | (simp only [List.length_drop, List.length_take]; rfl)) ?_; (with_reducible refine (spec_Run.calls 2 1 _ _ y101 t104 t105 t106 _ ?side1 ?side2 A1.out).mono ?_); (case side1 => repeat (first | exact (Kd.R_reads' HO103.out).2.2 | (with_reducible refine Kd.C_alloc ?_ _) | (with_reducible refine Kd.C_drewN ?_ _) | (with_reducible refine Kd.C_drew ?_))); (case side2 => exact (Kd.R_reads' HO103.out).2.1); rintro e w43 ⟨v107, v109, rfl, ho0, ho1, hb⟩; refine ⟨_, rfl, ?_⟩; have n0_ := Aside0.mk (Kd.R_below (by (with_reducible repeat (first | apply Kd.R_alloc | apply Kd.R_drewN | apply Kd.R_drew)); exact HO103.out) hb); have n1_ := Aside0.mk (Kd.R_lower ho0 (below_size (by repeat (first | (with_reducible first | exact HB.out | apply below_alloc | apply pw_below_drewN | apply below_drew1) | exact HB.out)))); have n2_ := Aside0.mk (Kd.R_lower ho1 (below_size (by repeat (first | (with_reducible first | exact HB.out | apply below_alloc | apply pw_below_drewN | apply below_drew1) | exact HB.out)))); have n3_ := Aside0.mk (below_step (by repeat (first | (with_reducible first | exact HB.out | apply below_alloc | apply pw_below_drewN | apply below_drew1) | exact HB.out)) hb); clear HO103; clear HB; have HO103 := n0_; have HO108 := n1_; have HO110 := n2_; have HB := n3_; clear n0_ n1_ n2_ n3_; (try clear hb); (try clear hb2); (try clear hk); (try clear hi); (try clear ho0); (try clear ho1); obtain ⟨Ao44, co44, eo44⟩ := Kd.R_slice HO108.out; subst eo44; have p111 : 0 ≤ (0 : Int) := (by omega); have q111 : 0 < (t104.length : Int) := of_decide_eq_true (by first | (with_reducible assumption) | assumption); obtain ⟨ad111, e111, hx111_0⟩ := Kd.at_int (Kd.R_reads' HO108.out).2.2 0 p111 q111; cases e111; have qi111 : (0 < t104.length) = True := eq_true (by omega); (try rw [show ((0 : Int)).toNat = 0 from rfl] at hx111_0); (try rw [Addr.add_zero'] at hx111_0); replace p111 := eq_true p111; replace q111 := eq_true q111))
        go_ret
        exact ⟨by first | rfl | (simp [errW_none, errW_some] <;> rfl) | (simp [*, errW_none, errW_some] <;> rfl), by repeat (first | (with_reducible first | exact HB.out | apply below_alloc | apply pw_below_drewN | apply below_drew1) | exact HB.out)⟩
    · rw [if_neg c3] at H
      exact absurd H (by simp)
  · rw [if_neg c2] at H
    have c2b0 : ((t104.length : Int) == 3) = false := beq_eq_false_iff_ne.mpr c2
    have c2b1 : ((t104.length : Int) != 3) = true := bne_iff_ne.mpr c2
    obtain rfl := Option.some.inj H
    go_enter Try.func15, Try.ntmps15
    go_wp2_with (first | ((with_reducible refine gate_dst (N := 8) rfl ?_); (try (refine gate_guard (by rfl) ?_; dsimp only)); refine Kd.R_lit k27 _ 27 ?hg (N := 8) ?hd (xs := ([(⟨(⟨#[101, 110, 113]⟩ : ByteArray), 5, 0⟩ : S27), (⟨(⟨#[101, 110, 113]⟩ : ByteArray), 6, 0⟩ : S27), (⟨(⟨#[100, 101, 113]⟩ : ByteArray), 0, 0⟩ : S27)] : List (S27))) (inner := [.string (⟨#[101, 110, 113]⟩ : ByteArray), .int .i64 5, .int .i64 0, .string (⟨#[101, 110, 113]⟩ : ByteArray), .int .i64 6, .int .i64 0, .string (⟨#[100, 101, 113]⟩ : ByteArray), .int .i64 0, .int .i64 0]) (ok := fun _ => True) (okp := fun _ => True) ?hr ?hp (fun _ hk => hk) trivial (Below.refl _ _) (Nat.le_refl _) (by simp) ?_; (case hd => rfl); (case hg => rfl); (case hr => first | (go_simp; done) | (go_simp; rfl)); (case hp => exact (Reps.c3 (show Kd.M k27 _ _ _ (⟨(⟨#[101, 110, 113]⟩ : ByteArray), 5, 0⟩ : S27) [.string (⟨#[101, 110, 113]⟩ : ByteArray), .int .i64 5, .int .i64 0] from (k27_mkM _ _ _ (⟨(⟨#[101, 110, 113]⟩ : ByteArray), 5, 0⟩ : S27) )) (Reps.c3 (show Kd.M k27 _ _ _ (⟨(⟨#[101, 110, 113]⟩ : ByteArray), 6, 0⟩ : S27) [.string (⟨#[101, 110, 113]⟩ : ByteArray), .int .i64 6, .int .i64 0] from (k27_mkM _ _ _ (⟨(⟨#[101, 110, 113]⟩ : ByteArray), 6, 0⟩ : S27) )) (Reps.c3 (show Kd.M k27 _ _ _ (⟨(⟨#[100, 101, 113]⟩ : ByteArray), 0, 0⟩ : S27) [.string (⟨#[100, 101, 113]⟩ : ByteArray), .int .i64 0, .int .i64 0] from (k27_mkM _ _ _ (⟨(⟨#[100, 101, 113]⟩ : ByteArray), 0, 0⟩ : S27) )) (Reps.none _ _))))); intro v102 w45 ho46 hb hg_ hnew_; clear hg_ hnew_; (first | rw [← Ny101.out] at ho46 | (simp only [Int.reduceToNat] at ho46; rw [← Ny101.out] at ho46)); have n0_ := Aside0.mk (Kd.R_lower ho46 (below_size (by repeat (first | (with_reducible first | exact HB.out | apply below_alloc | apply pw_below_drewN | apply below_drew1) | exact HB.out)))); have n1_ := Aside0.mk (below_step (by repeat (first | (with_reducible first | exact HB.out | apply below_alloc | apply pw_below_drewN | apply below_drew1) | exact HB.out)) hb); clear HB; have HO103 := n0_; have HB := n1_; clear n0_ n1_; clear hb ho46; obtain ⟨Ao47, co47, eo47⟩ := Kd.R_slice HO103.out; subst eo47) | ((with_reducible refine gate_callee (f := 24) rfl ?_); refine goesL_ (some 9) rfl rfl Try.func24 (by kernel_rfl) rfl #[.int .i64 2, .int .i64 1, .slice Ao47 y101.length co47] rfl (by (try simp only [List.map_toArray, List.map_cons, List.map_nil]); first | done | rfl | (simp only [List.length_drop, List.length_take]; rfl)) ?_; (with_reducible refine (spec_Run.calls 2 1 _ _ y101 t104 t105 t106 _ ?side1 ?side2 A1.out).mono ?_); (case side1 => repeat (first | exact (Kd.R_reads' HO103.out).2.2 | (with_reducible refine Kd.C_alloc ?_ _) | (with_reducible refine Kd.C_drewN ?_ _) | (with_reducible refine Kd.C_drew ?_))); (case side2 => exact (Kd.R_reads' HO103.out).2.1); rintro e w48 ⟨v107, v109, rfl, ho0, ho1, hb⟩; refine ⟨_, rfl, ?_⟩; have n0_ := Aside0.mk (Kd.R_below (by (with_reducible repeat (first | apply Kd.R_alloc | apply Kd.R_drewN | apply Kd.R_drew)); exact HO103.out) hb); have n1_ := Aside0.mk (Kd.R_lower ho0 (below_size (by repeat (first | (with_reducible first | exact HB.out | apply below_alloc | apply pw_below_drewN | apply below_drew1) | exact HB.out)))); have n2_ := Aside0.mk (Kd.R_lower ho1 (below_size (by repeat (first | (with_reducible first | exact HB.out | apply below_alloc | apply pw_below_drewN | apply below_drew1) | exact HB.out)))); have n3_ := Aside0.mk (below_step (by repeat (first | (with_reducible first | exact HB.out | apply below_alloc | apply pw_below_drewN | apply below_drew1) | exact HB.out)) hb); clear HO103; clear HB; have HO103 := n0_; have HO108 := n1_; have HO110 := n2_; have HB := n3_; clear n0_ n1_ n2_ n3_; (try clear hb); (try clear hb2); (try clear hk); (try clear hi); (try clear ho0); (try clear ho1); obtain ⟨Ao49, co49, eo49⟩ := Kd.R_slice HO108.out; subst eo49))
    go_ret
    exact ⟨by first | rfl | (simp [errW_none, errW_some] <;> rfl) | (simp [*, errW_none, errW_some] <;> rfl), by repeat (first | (with_reducible first | exact HB.out | apply below_alloc | apply pw_below_drewN | apply below_drew1) | exact HB.out)⟩

/-! ### locklesslaw18_run: function 16 -/
def locklesslaw18_run.f (a0 : Int) (a1 : Int) (l2 : List (S27)) : Option (List Int × Bool) := (spec_Run.f a0 a1 l2).bind fun bt115 => (if bt115.2.2 = 0 then (some (bt115.1, ((bt115.1.length : Int) == (l2.length : Int)))) else (some (bt115.1, false)))
set_option maxHeartbeats 8000000 in
set_option maxRecDepth 100000 in
theorem locklesslaw18_run.calls (a0 : Int) (a1 : Int) (A2 : Option Addr) (c2 : Nat) (l2 : List (S27)) (r1 : List Int) (r2 : Bool) (w : World) (hr2 : Kd.C k27 w A2 l2.length l2) (hc2 : l2.length ≤ c2) (h : locklesslaw18_run.f a0 a1 l2 = some (r1, r2)) :
    Calls Try.prog 16 #[.int .i64 a0, .int .i64 a1, .slice A2 l2.length c2] w fun e w' => ∃ v0_ : Value, e = .returned (.tuple #[v0_, .bool r2]) ∧ Kd.R (Kd.int .i64) 3 w' w.heap.size (fun _ => True) v0_ r1 ∧ Below w.heap.size w w' := by
  have HR2 := Aside0.mk hr2
  have HC2 := Aside0.mk hc2
  clear hr2 hc2
  have HB := Aside0.mk (Below.refl w.heap.size w)
  have H : ((spec_Run.f a0 a1 l2).bind fun bt115 => (if bt115.2.2 = 0 then (some (bt115.1, ((bt115.1.length : Int) == (l2.length : Int)))) else (some (bt115.1, false)))) = some (r1, r2) := h
  clear h
  replace H := Option.bind_eq_some_iff.mp H
  obtain ⟨⟨t115, t116, t117⟩, A40, H⟩ := H
  replace H : (if t117 = 0 then (some (t115, ((t115.length : Int) == (l2.length : Int)))) else (some (t115, false))) = some (r1, r2) := H
  have A4 := Aside0.mk A40
  clear A40
  by_cases c5 : t117 = 0
  · rw [if_pos c5] at H
    have c5b0 : (t117 == 0) = true := beq_iff_eq.mpr c5
    have c5b1 : (t117 != 0) = false := bne_eq_false_iff_eq.mpr c5
    clear c5
    simp only [Option.some.injEq, Prod.mk.injEq] at H
    obtain ⟨rfl, rfl⟩ := H
    go_enter Try.func16, Try.ntmps16
    go_wp2_with (first | ((with_reducible refine gate_callee (f := 24) rfl ?_); refine goesL_ (some 15) rfl rfl Try.func24 (by kernel_rfl) rfl #[.int .i64 a0, .int .i64 a1, .slice A2 l2.length c2] rfl (by (try simp only [List.map_toArray, List.map_cons, List.map_nil]); first | done | rfl | (simp only [List.length_drop, List.length_take]; rfl)) ?_; (with_reducible refine (spec_Run.calls a0 a1 _ _ l2 t115 t116 t117 _ ?side1 ?side2 A4.out).mono ?_); (case side1 => repeat (first | exact HR2.out | (with_reducible refine Kd.C_alloc ?_ _) | (with_reducible refine Kd.C_drewN ?_ _) | (with_reducible refine Kd.C_drew ?_))); (case side2 => exact HC2.out); rintro e w6 ⟨v118, v120, rfl, ho0, ho1, hb⟩; refine ⟨_, rfl, ?_⟩; have n0_ := Aside0.mk (Kd.R_lower ho0 (below_size (by repeat (first | (with_reducible first | exact HB.out | apply below_alloc | apply pw_below_drewN | apply below_drew1) | exact HB.out)))); have n1_ := Aside0.mk (Kd.R_lower ho1 (below_size (by repeat (first | (with_reducible first | exact HB.out | apply below_alloc | apply pw_below_drewN | apply below_drew1) | exact HB.out)))); have n2_ := Aside0.mk (below_step (by repeat (first | (with_reducible first | exact HB.out | apply below_alloc | apply pw_below_drewN | apply below_drew1) | exact HB.out)) hb); clear HB; have HO119 := n0_; have HO121 := n1_; have HB := n2_; clear n0_ n1_ n2_; (try clear hb); (try clear hb2); (try clear hk); (try clear hi); (try clear ho0); (try clear ho1); obtain ⟨Ao7, co7, eo7⟩ := Kd.R_slice HO119.out; subst eo7))
    go_ret2
    exact ⟨_, by first | rfl | (simp [errW_none, errW_some] <;> rfl) | (simp [*, errW_none, errW_some] <;> rfl), by (with_reducible repeat (first | apply Kd.R_alloc | apply Kd.R_drewN | apply Kd.R_drew)); exact Kd.R_mono HO119.out (fun _ hk => trivial), by repeat (first | (with_reducible first | exact HB.out | apply below_alloc | apply pw_below_drewN | apply below_drew1) | exact HB.out)⟩
  · rw [if_neg c5] at H
    have c5b0 : (t117 == 0) = false := beq_eq_false_iff_ne.mpr c5
    have c5b1 : (t117 != 0) = true := bne_iff_ne.mpr c5
    simp only [Option.some.injEq, Prod.mk.injEq] at H
    obtain ⟨rfl, rfl⟩ := H
    go_enter Try.func16, Try.ntmps16
    go_wp2_with (first | ((with_reducible refine gate_callee (f := 24) rfl ?_); refine goesL_ (some 15) rfl rfl Try.func24 (by kernel_rfl) rfl #[.int .i64 a0, .int .i64 a1, .slice A2 l2.length c2] rfl (by (try simp only [List.map_toArray, List.map_cons, List.map_nil]); first | done | rfl | (simp only [List.length_drop, List.length_take]; rfl)) ?_; (with_reducible refine (spec_Run.calls a0 a1 _ _ l2 t115 t116 t117 _ ?side1 ?side2 A4.out).mono ?_); (case side1 => repeat (first | exact HR2.out | (with_reducible refine Kd.C_alloc ?_ _) | (with_reducible refine Kd.C_drewN ?_ _) | (with_reducible refine Kd.C_drew ?_))); (case side2 => exact HC2.out); rintro e w8 ⟨v118, v120, rfl, ho0, ho1, hb⟩; refine ⟨_, rfl, ?_⟩; have n0_ := Aside0.mk (Kd.R_lower ho0 (below_size (by repeat (first | (with_reducible first | exact HB.out | apply below_alloc | apply pw_below_drewN | apply below_drew1) | exact HB.out)))); have n1_ := Aside0.mk (Kd.R_lower ho1 (below_size (by repeat (first | (with_reducible first | exact HB.out | apply below_alloc | apply pw_below_drewN | apply below_drew1) | exact HB.out)))); have n2_ := Aside0.mk (below_step (by repeat (first | (with_reducible first | exact HB.out | apply below_alloc | apply pw_below_drewN | apply below_drew1) | exact HB.out)) hb); clear HB; have HO119 := n0_; have HO121 := n1_; have HB := n2_; clear n0_ n1_ n2_; (try clear hb); (try clear hb2); (try clear hk); (try clear hi); (try clear ho0); (try clear ho1)))
    go_ret2
    exact ⟨_, by first | rfl | (simp [errW_none, errW_some] <;> rfl) | (simp [*, errW_none, errW_some] <;> rfl), by (with_reducible repeat (first | apply Kd.R_alloc | apply Kd.R_drewN | apply Kd.R_drew)); exact Kd.R_mono HO119.out (fun _ hk => trivial), by repeat (first | (with_reducible first | exact HB.out | apply below_alloc | apply pw_below_drewN | apply below_drew1) | exact HB.out)⟩

/-! ### locklesslaw18_SpecRings: function 4 -/
mutual
def locklesslaw18_SpecRings.l0 : Nat → Int → Int → Int → List (S27) → Int → Option (Bool)
  | 0, _, _, _, _, _ => none
  | k + 1, x7, x8, x9, x10, x11 => if x11 < (wrap64 (x7 + x8)) then (if x10.length < 4398046511104 then (locklesslaw18_SpecRings.l0 k x7 x8 x9 (x10 ++ [(⟨(⟨#[101, 110, 113]⟩ : ByteArray), wrap64 (x9 + x11), 0⟩ : S27)]) (wrap64 (x11 + 1))) else (none)) else ((some (([(⟨(⟨#[100, 101, 113]⟩ : ByteArray), 0, 0⟩ : S27), (⟨(⟨#[101, 110, 113]⟩ : ByteArray), x9, 0⟩ : S27), (⟨(⟨#[101, 110, 113]⟩ : ByteArray), x9, 0⟩ : S27)] : List (S27)) : List (S27))).bind fun y126 => (if x10.length + y126.length < 4398046511104 then ((locklesslaw18_run.f 3 x7 (x10 ++ y126)).bind fun bt132 => (if bt132.2 = true then (locklesslaw18_SpecRings.l1 k x7 x8 x9 bt132.1 0) else (some false))) else (none)))
def locklesslaw18_SpecRings.l1 : Nat → Int → Int → Int → List Int → Int → Option (Bool)
  | 0, _, _, _, _, _ => none
  | k + 1, x7, x8, x9, x12, x14 => if x14 < (wrap64 (x7 + x8)) then (if x14 ≥ x7 then (if 0 ≤ x14 then (if x14 < (x12.length : Int) then (if (rd x12 x14) = (-2) then (locklesslaw18_SpecRings.l1 k x7 x8 x9 x12 (wrap64 (x14 + 1))) else (some false)) else (none)) else (none)) else (if 0 ≤ x14 then (if x14 < (x12.length : Int) then (if (rd x12 x14) = 0 then (locklesslaw18_SpecRings.l1 k x7 x8 x9 x12 (wrap64 (x14 + 1))) else (some false)) else (none)) else (none))) else (if 0 ≤ (wrap64 (x7 + x8)) then (if (wrap64 (x7 + x8)) < (x12.length : Int) then (if (rd x12 (wrap64 (x7 + x8))) = x9 then (if 0 ≤ (wrap64 ((wrap64 (x7 + x8)) + 1)) then (if (wrap64 ((wrap64 (x7 + x8)) + 1)) < (x12.length : Int) then (if (rd x12 (wrap64 ((wrap64 (x7 + x8)) + 1))) = 0 then (if 0 ≤ (wrap64 ((wrap64 (x7 + x8)) + 2)) then (if (wrap64 ((wrap64 (x7 + x8)) + 2)) < (x12.length : Int) then (some ((rd x12 (wrap64 ((wrap64 (x7 + x8)) + 2))) == (-2))) else (none)) else (none)) else (some false)) else (none)) else (none)) else (some false)) else (none)) else (none))
end
def locklesslaw18_SpecRings.f (k : Nat) (a0 : Int) (a1 : Int) (a2 : Int) : Option (Bool) := (locklesslaw18_awake.f).bind fun t122 => (if t122 = true then (locklesslaw18_SpecRings.l0 k (wrap64 (1 + (Go.bits .and .i64 a0 7))) (Go.bits .and .i64 a1 7) (wrap64 (Int.tmod (IntKind.u64.wrap (a2)) 800)) ([] : List (S27)) 0) else (some false))
theorem locklesslaw18_SpecRings.mono_l : ∀ k, (∀ y0 y1 y2 y3 y4, LeO (locklesslaw18_SpecRings.l0 k y0 y1 y2 y3 y4) (locklesslaw18_SpecRings.l0 (k + 1) y0 y1 y2 y3 y4)) ∧ (∀ y0 y1 y2 y3 y4, LeO (locklesslaw18_SpecRings.l1 k y0 y1 y2 y3 y4) (locklesslaw18_SpecRings.l1 (k + 1) y0 y1 y2 y3 y4))
  | 0 => ⟨fun _ _ _ _ _ r h => by simp [locklesslaw18_SpecRings.l0] at h, fun _ _ _ _ _ r h => by simp [locklesslaw18_SpecRings.l1] at h⟩
  | k + 1 => by
    obtain ⟨ih0, ih1⟩ := locklesslaw18_SpecRings.mono_l k
    refine ⟨?_, ?_⟩
    · intro y0 y1 y2 y3 y4
      unfold locklesslaw18_SpecRings.l0
      repeat' first
      | (with_reducible exact ih0 _ _ _ _ _)
      | (with_reducible exact ih1 _ _ _ _ _)
      | (with_reducible exact LeO.refl _)
      | (with_reducible exact LeO.none _)
      | (with_reducible refine LeO.ite ?_ ?_)
      | (with_reducible refine LeO.bind ?_ (fun _ => ?_))
      | exact ih0 _ _ _ _ _
      | exact ih1 _ _ _ _ _
      | exact LeO.none _
      | refine LeO.ite ?_ ?_
      | refine LeO.bind ?_ (fun _ => ?_)
    · intro y0 y1 y2 y3 y4
      unfold locklesslaw18_SpecRings.l1
      repeat' first
      | (with_reducible exact ih0 _ _ _ _ _)
      | (with_reducible exact ih1 _ _ _ _ _)
      | (with_reducible exact LeO.refl _)
      | (with_reducible exact LeO.none _)
      | (with_reducible refine LeO.ite ?_ ?_)
      | (with_reducible refine LeO.bind ?_ (fun _ => ?_))
      | exact ih0 _ _ _ _ _
      | exact ih1 _ _ _ _ _
      | exact LeO.none _
      | refine LeO.ite ?_ ?_
      | refine LeO.bind ?_ (fun _ => ?_)
theorem locklesslaw18_SpecRings.mono : ∀ a0 a1 a2 k, LeO (locklesslaw18_SpecRings.f k a0 a1 a2) (locklesslaw18_SpecRings.f (k + 1) a0 a1 a2) := by
  intro a0 a1 a2 k
  obtain ⟨ih0, ih1⟩ := locklesslaw18_SpecRings.mono_l k
  unfold locklesslaw18_SpecRings.f
  repeat' first
      | (with_reducible exact ih0 _ _ _ _ _)
      | (with_reducible exact ih1 _ _ _ _ _)
      | (with_reducible exact LeO.refl _)
      | (with_reducible exact LeO.none _)
      | (with_reducible refine LeO.ite ?_ ?_)
      | (with_reducible refine LeO.bind ?_ (fun _ => ?_))
      | exact ih0 _ _ _ _ _
      | exact ih1 _ _ _ _ _
      | exact LeO.none _
      | refine LeO.ite ?_ ?_
      | refine LeO.bind ?_ (fun _ => ?_)
set_option maxHeartbeats 8000000 in
set_option maxRecDepth 100000 in
theorem locklesslaw18_SpecRings.calls (k : Nat) (a0 : Int) (a1 : Int) (a2 : Int) (r : Bool) (w : World) (h : locklesslaw18_SpecRings.f k a0 a1 a2 = some r) :
    Calls Try.prog 4 #[.int .i64 a0, .int .i64 a1, .int .i64 a2] w fun e w' => e = .returned (.bool r) ∧ Below w.heap.size w w' := by
  have hu27 := Try.underlying27
  have HB := Aside0.mk (Below.refl w.heap.size w)
  have H : ((locklesslaw18_awake.f).bind fun t122 => (if t122 = true then (locklesslaw18_SpecRings.l0 k (wrap64 (1 + (Go.bits .and .i64 a0 7))) (Go.bits .and .i64 a1 7) (wrap64 (Int.tmod (IntKind.u64.wrap (a2)) 800)) ([] : List (S27)) 0) else (some false))) = some r := h
  clear h
  replace H := Option.bind_eq_some_iff.mp H
  obtain ⟨t122, A40, H⟩ := H
  replace H : (if t122 = true then (locklesslaw18_SpecRings.l0 k (wrap64 (1 + (Go.bits .and .i64 a0 7))) (Go.bits .and .i64 a1 7) (wrap64 (Int.tmod (IntKind.u64.wrap (a2)) 800)) ([] : List (S27)) 0) else (some false)) = some r := H
  have A4 := Aside0.mk A40
  clear A40
  by_cases c5 : t122 = true
  · subst c5
    have H1 : (locklesslaw18_SpecRings.l0 k (wrap64 (1 + (Go.bits .and .i64 a0 7))) (Go.bits .and .i64 a1 7) (wrap64 (Int.tmod (IntKind.u64.wrap (a2)) 800)) ([] : List (S27)) 0) = some r := by rw [if_pos rfl] at H; exact H
    clear H
    have H := H1
    clear H1
    have H' := Aside0.mk H
    clear H
    go_enter Try.func4, Try.ntmps4
    go_wp2_with (first | ((with_reducible refine gate_callee (f := 15) rfl ?_); refine goesL_ (some 17) rfl rfl Try.func15 (by kernel_rfl) rfl #[] rfl (by (try simp only [List.map_toArray, List.map_cons, List.map_nil]); first | done | rfl | (simp only [List.length_drop, List.length_take]; rfl)) ?_; (with_reducible refine (locklesslaw18_awake.calls  true _ A4.out).mono ?_); rintro e w6 ⟨rfl, hb⟩; refine ⟨_, rfl, ?_⟩; have n0_ := Aside0.mk (below_step (by repeat (first | (with_reducible first | exact HB.out | apply below_alloc | apply pw_below_drewN | apply below_drew1) | exact HB.out)) hb); clear HB; have HB := n0_; clear n0_; (try clear hb); (try clear hb2); (try clear hk); (try clear hi)))
    go_loopg [10, 11] k (fun kq v10 v11 w' => ∃ (x10_1 : List (S27)) (x11_1 : Int), v11 = .int .i64 x11_1 ∧ Aside0 (locklesslaw18_SpecRings.l0 kq (wrap64 (1 + (Go.bits .and .i64 a0 7))) (Go.bits .and .i64 a1 7) (wrap64 (Int.tmod (IntKind.u64.wrap (a2)) 800)) x10_1 x11_1 = some r) ∧ Aside0 (kq ≤ k) ∧ Aside0 (Kd.R k27 27 w' w.heap.size (fun _ => True) v10 x10_1) ∧ Aside0 (Below w.heap.size w w'))
    case atStart => exact ⟨(([] : List (S27))), (0), (by first | rfl | (simp; done) | (simp [*]; done)), H', ⟨Nat.le_refl _⟩, ⟨by first | exact Kd.R_nil _ _ _ _ _ | exact Kd.N_nil _ _ _ _ _ | exact Kd.V_nil _ _ _ _ _ | exact Kd.Q_nil _ _ _ _ _ | exact Kd.S_nil _ _ _ _ _⟩, ⟨by repeat (first | (with_reducible first | exact HB.out | apply below_alloc | apply pw_below_drewN | apply below_drew1) | exact HB.out)⟩⟩
    case round =>
      clear H'
      try clear c1
      try clear p2
      try clear c4
      try clear c5
      try clear p6
      obtain ⟨x10_1, x11_1, rfl, HA, HK1, HO_10, HB⟩ := hrel
      cases gk with
      | zero => exact absurd HA.out (by simp [locklesslaw18_SpecRings.l0])
      | succ k1 =>
        have H := HA.out
        clear HA
        simp only [locklesslaw18_SpecRings.l0] at H
        by_cases c7 : x11_1 < (wrap64 ((wrap64 (1 + (Go.bits .and .i64 a0 7))) + (Go.bits .and .i64 a1 7)))
        · rw [if_pos c7] at H
          have c7b0 : decide (x11_1 < (wrap64 ((wrap64 (1 + (Go.bits .and .i64 a0 7))) + (Go.bits .and .i64 a1 7)))) = true := decide_eq_true c7
          clear c7
          by_cases c8 : x10_1.length < 4398046511104
          · rw [if_pos c8] at H
            have LMc8 := Aside0.mk c8
            clear c8
            obtain ⟨y123, hy123⟩ : ∃ y_ : List (S27), y_ = (x10_1 ++ [(⟨(⟨#[101, 110, 113]⟩ : ByteArray), wrap64 ((wrap64 (Int.tmod (IntKind.u64.wrap (a2)) 800)) + x11_1), 0⟩ : S27)]) := ⟨_, rfl⟩
            replace H : (locklesslaw18_SpecRings.l0 k1 (wrap64 (1 + (Go.bits .and .i64 a0 7))) (Go.bits .and .i64 a1 7) (wrap64 (Int.tmod (IntKind.u64.wrap (a2)) 800)) y123 (wrap64 (x11_1 + 1))) = some r := by first | (rw [hy123]; with_reducible exact H) | (have H2_ := (Option.bind_some _ _).symm.trans H; rw [hy123]; with_reducible exact H2_) | (have H2_ := (Option.bind_some _ _).symm.trans H; with_reducible exact H2_) | with_reducible exact H | (rw [hy123]; exact H) | exact H
            have Ny123 := Aside0.mk hy123
            clear hy123
            have H' := Aside0.mk H
            clear H
            go_wp2_with (first | ((with_reducible refine gate_builtin (b := .append) (xs := #[.tmp 35, .tmp 40]) rfl ?_); at_builtin; refine Kd.R_append k27 (w0 := w) w.heap.size rfl (.tmp 35) (.tmp 40) 24 27 (.agg #[(.string ⟨#[]⟩), (.int .i64 0), (.int .i64 0)]) 32 rfl Try.underlying24 info27 rfl (by decide) (by omega) u10 x10_1 (⟨(⟨#[101, 110, 113]⟩ : ByteArray), wrap64 ((wrap64 (Int.tmod (IntKind.u64.wrap (a2)) 800)) + x11_1), 0⟩ : S27) [.string (⟨#[101, 110, 113]⟩ : ByteArray), .int .i64 (wrap64 ((wrap64 (Int.tmod (IntKind.u64.wrap (a2)) 800)) + x11_1)), .int .i64 0] (fun _ => True) (fun _ => False) rfl rfl ?aP (fun _ hk => hk.elim) ?aF ?aO ?aB ?aS ?aL ?_; (case aP => exact k27_mkM _ _ _ (⟨(⟨#[101, 110, 113]⟩ : ByteArray), wrap64 ((wrap64 (Int.tmod (IntKind.u64.wrap (a2)) 800)) + x11_1), 0⟩ : S27)); (case aB => exact (by repeat (first | (with_reducible first | exact HB.out | apply below_alloc | apply pw_below_drewN | apply below_drew1) | exact HB.out))); (case aF => exact (fun _ _ => trivial)); (case aO => exact (by (with_reducible repeat (first | apply Kd.R_alloc | apply Kd.R_drewN | apply Kd.R_drew)); exact HO_10.out)); (case aS => exact (below_size (by repeat (first | (with_reducible first | exact HB.out | apply below_alloc | apply pw_below_drewN | apply below_drew1) | exact HB.out)))); (case aL => have := LMc8.out; omega); intro v124 w9 ho hb hg hat; rw [← Ny123.out] at ho; have n0_ := Aside0.mk (hb); have n1_ := Aside0.mk (ho); clear HB; clear HO_10; have HB := n0_; have HO125 := n1_; clear n0_ n1_; clear ho hb hg hat))
            go_roundg k1
            case measure => have := HK1.out; omega
            case rel => exact ⟨(y123), (wrap64 (x11_1 + 1)), (by first | rfl | (simp; done) | (simp [*]; done)), H', ⟨by have := HK1.out; omega⟩, ⟨by (with_reducible repeat (first | apply Kd.R_alloc | apply Kd.R_drewN | apply Kd.R_drew)); exact HO125.out⟩, ⟨by repeat (first | (with_reducible first | exact HB.out | apply below_alloc | apply pw_below_drewN | apply below_drew1) | exact HB.out)⟩⟩
          · rw [if_neg c8] at H
            exact absurd H (by simp)
        · rw [if_neg c7] at H
          have c7b0 : decide (x11_1 < (wrap64 ((wrap64 (1 + (Go.bits .and .i64 a0 7))) + (Go.bits .and .i64 a1 7)))) = false := decide_eq_false c7
          clear c7
          obtain ⟨y126, hy126⟩ : ∃ y_ : List (S27), y_ = (([(⟨(⟨#[100, 101, 113]⟩ : ByteArray), 0, 0⟩ : S27), (⟨(⟨#[101, 110, 113]⟩ : ByteArray), (wrap64 (Int.tmod (IntKind.u64.wrap (a2)) 800)), 0⟩ : S27), (⟨(⟨#[101, 110, 113]⟩ : ByteArray), (wrap64 (Int.tmod (IntKind.u64.wrap (a2)) 800)), 0⟩ : S27)] : List (S27))) := ⟨_, rfl⟩
          replace H : (if x10_1.length + y126.length < 4398046511104 then ((locklesslaw18_run.f 3 (wrap64 (1 + (Go.bits .and .i64 a0 7))) (x10_1 ++ y126)).bind fun bt132 => (if bt132.2 = true then (locklesslaw18_SpecRings.l1 k1 (wrap64 (1 + (Go.bits .and .i64 a0 7))) (Go.bits .and .i64 a1 7) (wrap64 (Int.tmod (IntKind.u64.wrap (a2)) 800)) bt132.1 0) else (some false))) else (none)) = some r := by first | (rw [hy126]; with_reducible exact H) | (have H2_ := (Option.bind_some _ _).symm.trans H; rw [hy126]; with_reducible exact H2_) | (have H2_ := (Option.bind_some _ _).symm.trans H; with_reducible exact H2_) | with_reducible exact H | (rw [hy126]; exact H) | exact H
          have Ny126 := Aside0.mk hy126
          clear hy126
          by_cases c10 : x10_1.length + y126.length < 4398046511104
          · rw [if_pos c10] at H
            have LMc10 := Aside0.mk c10
            clear c10
            obtain ⟨y129, hy129⟩ : ∃ y_ : List (S27), y_ = (x10_1 ++ y126) := ⟨_, rfl⟩
            replace H : ((locklesslaw18_run.f 3 (wrap64 (1 + (Go.bits .and .i64 a0 7))) y129).bind fun bt132 => (if bt132.2 = true then (locklesslaw18_SpecRings.l1 k1 (wrap64 (1 + (Go.bits .and .i64 a0 7))) (Go.bits .and .i64 a1 7) (wrap64 (Int.tmod (IntKind.u64.wrap (a2)) 800)) bt132.1 0) else (some false))) = some r := by first | (rw [hy129]; with_reducible exact H) | (have H2_ := (Option.bind_some _ _).symm.trans H; rw [hy129]; with_reducible exact H2_) | (have H2_ := (Option.bind_some _ _).symm.trans H; with_reducible exact H2_) | with_reducible exact H | (rw [hy129]; exact H) | exact H
            have Ny129 := Aside0.mk hy129
            clear hy129
            replace H := Option.bind_eq_some_iff.mp H
            obtain ⟨⟨t132, t133⟩, A110, H⟩ := H
            replace H : (if t133 = true then (locklesslaw18_SpecRings.l1 k1 (wrap64 (1 + (Go.bits .and .i64 a0 7))) (Go.bits .and .i64 a1 7) (wrap64 (Int.tmod (IntKind.u64.wrap (a2)) 800)) t132 0) else (some false)) = some r := H
            have A11 := Aside0.mk A110
            clear A110
            by_cases c12 : t133 = true
            · subst c12
              have H1 : (locklesslaw18_SpecRings.l1 k1 (wrap64 (1 + (Go.bits .and .i64 a0 7))) (Go.bits .and .i64 a1 7) (wrap64 (Int.tmod (IntKind.u64.wrap (a2)) 800)) t132 0) = some r := by rw [if_pos rfl] at H; exact H
              clear H
              have H := H1
              clear H1
              have H' := Aside0.mk H
              clear H
              go_wp2_with (first | ((with_reducible refine gate_dst (N := 48) rfl ?_); refine Kd.R_lit k27 _ 27 ?hg (N := 48) ?hd (xs := ([(⟨(⟨#[100, 101, 113]⟩ : ByteArray), 0, 0⟩ : S27), (⟨(⟨#[101, 110, 113]⟩ : ByteArray), (wrap64 (Int.tmod (IntKind.u64.wrap (a2)) 800)), 0⟩ : S27), (⟨(⟨#[101, 110, 113]⟩ : ByteArray), (wrap64 (Int.tmod (IntKind.u64.wrap (a2)) 800)), 0⟩ : S27)] : List (S27))) (inner := [.string (⟨#[100, 101, 113]⟩ : ByteArray), .int .i64 0, .int .i64 0, .string (⟨#[101, 110, 113]⟩ : ByteArray), .int .i64 (wrap64 (Int.tmod (IntKind.u64.wrap (a2)) 800)), .int .i64 0, .string (⟨#[101, 110, 113]⟩ : ByteArray), .int .i64 (wrap64 (Int.tmod (IntKind.u64.wrap (a2)) 800)), .int .i64 0]) (ok := fun _ => True) (okp := fun _ => True) ?hr ?hp (fun _ hk => hk) trivial (Below.refl _ _) (Nat.le_refl _) (by simp) ?_; (case hd => rfl); (case hg => rfl); (case hr => first | (go_simp; done) | (go_simp; rfl)); (case hp => exact (Reps.c3 (show Kd.M k27 _ _ _ (⟨(⟨#[100, 101, 113]⟩ : ByteArray), 0, 0⟩ : S27) [.string (⟨#[100, 101, 113]⟩ : ByteArray), .int .i64 0, .int .i64 0] from (k27_mkM _ _ _ (⟨(⟨#[100, 101, 113]⟩ : ByteArray), 0, 0⟩ : S27) )) (Reps.c3 (show Kd.M k27 _ _ _ (⟨(⟨#[101, 110, 113]⟩ : ByteArray), (wrap64 (Int.tmod (IntKind.u64.wrap (a2)) 800)), 0⟩ : S27) [.string (⟨#[101, 110, 113]⟩ : ByteArray), .int .i64 (wrap64 (Int.tmod (IntKind.u64.wrap (a2)) 800)), .int .i64 0] from (k27_mkM _ _ _ (⟨(⟨#[101, 110, 113]⟩ : ByteArray), (wrap64 (Int.tmod (IntKind.u64.wrap (a2)) 800)), 0⟩ : S27) )) (Reps.c3 (show Kd.M k27 _ _ _ (⟨(⟨#[101, 110, 113]⟩ : ByteArray), (wrap64 (Int.tmod (IntKind.u64.wrap (a2)) 800)), 0⟩ : S27) [.string (⟨#[101, 110, 113]⟩ : ByteArray), .int .i64 (wrap64 (Int.tmod (IntKind.u64.wrap (a2)) 800)), .int .i64 0] from (k27_mkM _ _ _ (⟨(⟨#[101, 110, 113]⟩ : ByteArray), (wrap64 (Int.tmod (IntKind.u64.wrap (a2)) 800)), 0⟩ : S27) )) (Reps.none _ _))))); intro v127 w13 ho14 hb hg_ hnew_; clear hg_ hnew_; (first | rw [← Ny126.out] at ho14 | (simp only [Int.reduceToNat] at ho14; rw [← Ny126.out] at ho14)); have n0_ := Aside0.mk (Kd.R_elder' (by (with_reducible repeat (first | apply Kd.R_alloc | apply Kd.R_drewN | apply Kd.R_drew)); exact HO_10.out) (Kd.R_base ho14) hb); have n1_ := Aside0.mk (Kd.R_lower (Kd.R_new' ho14 (Kd.R_lt (by (with_reducible repeat (first | apply Kd.R_alloc | apply Kd.R_drewN | apply Kd.R_drew)); exact HO_10.out))) (below_size (by repeat (first | (with_reducible first | exact HB.out | apply below_alloc | apply pw_below_drewN | apply below_drew1) | exact HB.out)))); have n2_ := Aside0.mk (below_step (by repeat (first | (with_reducible first | exact HB.out | apply below_alloc | apply pw_below_drewN | apply below_drew1) | exact HB.out)) hb); clear HO_10; clear HB; have HO_10 := n0_; have HO128 := n1_; have HB := n2_; clear n0_ n1_ n2_; clear hb ho14; obtain ⟨Ao16, co16, eo16⟩ := Kd.R_slice HO128.out; subst eo16) | ((with_reducible refine gate_builtin (b := .append) (xs := #[.tmp 42, .tmp 48]) rfl ?_); at_builtin; refine Kd.R_append_rows k27 (w0 := w) w.heap.size rfl (.tmp 42) (.tmp 48) 24 27 (.agg #[(.string ⟨#[]⟩), (.int .i64 0), (.int .i64 0)]) 32 rfl Try.underlying24 info27 rfl (by decide) (by omega) u10 x10_1 y126 _ _ _ (fun k_ => some k_ ≠ (.slice Ao16 y126.length co16 : Value).ownBlock) (fun _ => False) rfl rfl ?aO ?aR (fun _ _ h => h) (fun _ h => h.elim) ?aF ?aB ?aS ?aL ?_; (case aR => repeat (first | exact (Kd.R_reads' HO128.out).2.2 | (with_reducible refine Kd.C_alloc ?_ _) | (with_reducible refine Kd.C_drewN ?_ _) | (with_reducible refine Kd.C_drew ?_))); (case aB => exact (by repeat (first | (with_reducible first | exact HB.out | apply below_alloc | apply pw_below_drewN | apply below_drew1) | exact HB.out))); (case aF => exact (fun k_ hk => Kd.fresh' (Kd.R_lt (by (with_reducible repeat (first | apply Kd.R_alloc | apply Kd.R_drewN | apply Kd.R_drew)); exact HO128.out)) k_ hk)); (case aO => exact (by (with_reducible repeat (first | apply Kd.R_alloc | apply Kd.R_drewN | apply Kd.R_drew)); exact Kd.R_mono HO_10.out (fun _ hk => hk.2))); (case aS => exact (below_size (by repeat (first | (with_reducible first | exact HB.out | apply below_alloc | apply pw_below_drewN | apply below_drew1) | exact HB.out)))); (case aL => have := LMc10.out; omega); intro v130 w15 ho hb hg hat; rw [← Ny129.out] at ho; have n0_ := Aside0.mk (Kd.R_after (ok := (fun _ => True)) (by (with_reducible repeat (first | apply Kd.R_alloc | apply Kd.R_drewN | apply Kd.R_drew)); exact HO128.out) hg hat); have n1_ := Aside0.mk (hb); have n2_ := Aside0.mk (ho); clear HO128; clear HB; clear HO_10; have HO128 := n0_; have HB := n1_; have HO131 := n2_; clear n0_ n1_ n2_; clear ho hb hg hat; obtain ⟨Ao17, co17, eo17⟩ := Kd.R_slice HO131.out; subst eo17) | ((with_reducible refine gate_callee (f := 16) rfl ?_); refine goesL_ (some 53) rfl rfl Try.func16 (by kernel_rfl) rfl #[.int .i64 3, .int .i64 (wrap64 (1 + (Go.bits .and .i64 a0 7))), .slice Ao17 y129.length co17] rfl (by (try simp only [List.map_toArray, List.map_cons, List.map_nil]); first | done | rfl | (simp only [List.length_drop, List.length_take]; rfl)) ?_; (with_reducible refine (locklesslaw18_run.calls 3 (wrap64 (1 + (Go.bits .and .i64 a0 7))) _ _ y129 t132 true _ ?side1 ?side2 A11.out).mono ?_); (case side1 => repeat (first | exact (Kd.R_reads' HO131.out).2.2 | (with_reducible refine Kd.C_alloc ?_ _) | (with_reducible refine Kd.C_drewN ?_ _) | (with_reducible refine Kd.C_drew ?_))); (case side2 => exact (Kd.R_reads' HO131.out).2.1); rintro e w18 ⟨v134, rfl, ho0, hb⟩; refine ⟨_, rfl, ?_⟩; have n0_ := Aside0.mk (Kd.R_below (by (with_reducible repeat (first | apply Kd.R_alloc | apply Kd.R_drewN | apply Kd.R_drew)); exact HO128.out) hb); have n1_ := Aside0.mk (Kd.R_below (by (with_reducible repeat (first | apply Kd.R_alloc | apply Kd.R_drewN | apply Kd.R_drew)); exact HO131.out) hb); have n2_ := Aside0.mk (Kd.R_lower ho0 (below_size (by repeat (first | (with_reducible first | exact HB.out | apply below_alloc | apply pw_below_drewN | apply below_drew1) | exact HB.out)))); have n3_ := Aside0.mk (below_step (by repeat (first | (with_reducible first | exact HB.out | apply below_alloc | apply pw_below_drewN | apply below_drew1) | exact HB.out)) hb); clear HO128; clear HO131; clear HB; have HO128 := n0_; have HO131 := n1_; have HO135 := n2_; have HB := n3_; clear n0_ n1_ n2_ n3_; (try clear hb); (try clear hb2); (try clear hk); (try clear hi); (try clear ho0)))
              go_loopg [14] k1 (fun kq v14 w' => ∃ (x14_2 : Int), v14 = .int .i64 x14_2 ∧ Aside0 (locklesslaw18_SpecRings.l1 kq (wrap64 (1 + (Go.bits .and .i64 a0 7))) (Go.bits .and .i64 a1 7) (wrap64 (Int.tmod (IntKind.u64.wrap (a2)) 800)) t132 x14_2 = some r) ∧ Aside0 (kq ≤ k1) ∧ Aside0 (Kd.R (Kd.int .i64) 3 w' w.heap.size (fun _ => True) v134 t132) ∧ Aside0 (Below w.heap.size w w'))
              case atStart => exact ⟨(0), (by first | rfl | (simp; done) | (simp [*]; done)), H', ⟨Nat.le_refl _⟩, ⟨by (with_reducible repeat (first | apply Kd.R_alloc | apply Kd.R_drewN | apply Kd.R_drew)); exact HO135.out⟩, ⟨by repeat (first | (with_reducible first | exact HB.out | apply below_alloc | apply pw_below_drewN | apply below_drew1) | exact HB.out)⟩⟩
              case round =>
                clear H'
                try clear c1
                try clear p2
                try clear c3
                try clear c4
                try clear c5
                try clear p6
                try clear c7
                try clear c7b0
                try clear c8
                try clear c10
                try clear c12
                try clear c15
                try clear c16
                try clear p2
                try clear p6
                obtain ⟨x14_2, rfl, HA, HK2, HO_12, HB⟩ := hrel
                cases gk with
                | zero => exact absurd HA.out (by simp [locklesslaw18_SpecRings.l1])
                | succ k2 =>
                  have H := HA.out
                  clear HA
                  simp only [locklesslaw18_SpecRings.l1] at H
                  by_cases c19 : x14_2 < (wrap64 ((wrap64 (1 + (Go.bits .and .i64 a0 7))) + (Go.bits .and .i64 a1 7)))
                  · rw [if_pos c19] at H
                    have c19b0 : decide (x14_2 < (wrap64 ((wrap64 (1 + (Go.bits .and .i64 a0 7))) + (Go.bits .and .i64 a1 7)))) = true := decide_eq_true c19
                    clear c19
                    by_cases c20 : x14_2 ≥ (wrap64 (1 + (Go.bits .and .i64 a0 7)))
                    · rw [if_pos c20] at H
                      have c20b0 : decide ((wrap64 (1 + (Go.bits .and .i64 a0 7))) ≤ x14_2) = true := decide_eq_true c20
                      clear c20
                      by_cases c21 : 0 ≤ x14_2
                      · rw [if_pos c21] at H
                        have c21b0 : decide (0 ≤ x14_2) = true := decide_eq_true c21
                        clear c21
                        by_cases c22 : x14_2 < (t132.length : Int)
                        · rw [if_pos c22] at H
                          have c22b0 : decide (x14_2 < (t132.length : Int)) = true := decide_eq_true c22
                          clear c22
                          by_cases c23 : (rd t132 x14_2) = (-2)
                          · rw [if_pos c23] at H
                            have c23b0 : ((rd t132 x14_2) == (-2)) = true := beq_iff_eq.mpr c23
                            have c23b1 : ((rd t132 x14_2) != (-2)) = false := bne_eq_false_iff_eq.mpr c23
                            clear c23
                            have H' := Aside0.mk H
                            clear H
                            obtain ⟨Ao24, co24, eo24⟩ := Kd.R_slice HO_12.out
                            subst eo24
                            have p139 : 0 ≤ (x14_2 : Int) := of_decide_eq_true (by first | (with_reducible assumption) | assumption)
                            have q139 : x14_2 < (t132.length : Int) := of_decide_eq_true (by first | (with_reducible assumption) | assumption)
                            obtain ⟨ad139, e139, hx139_0⟩ := Kd.at_int (Kd.R_reads' HO_12.out).2.2 x14_2 p139 q139
                            cases e139
                            replace p139 := eq_true p139
                            replace q139 := eq_true q139
                            go_wp2
                            go_roundg k2
                            case measure => have := HK1.out; have := HK2.out; omega
                            case rel => exact ⟨(wrap64 (x14_2 + 1)), (by first | rfl | (simp; done) | (simp [*]; done)), H', ⟨by have := HK1.out; have := HK2.out; omega⟩, ⟨by (with_reducible repeat (first | apply Kd.R_alloc | apply Kd.R_drewN | apply Kd.R_drew)); exact HO_12.out⟩, ⟨by repeat (first | (with_reducible first | exact HB.out | apply below_alloc | apply pw_below_drewN | apply below_drew1) | exact HB.out)⟩⟩
                          · rw [if_neg c23] at H
                            have c23b0 : ((rd t132 x14_2) == (-2)) = false := beq_eq_false_iff_ne.mpr c23
                            have c23b1 : ((rd t132 x14_2) != (-2)) = true := bne_iff_ne.mpr c23
                            obtain rfl := Option.some.inj H
                            obtain ⟨Ao25, co25, eo25⟩ := Kd.R_slice HO_12.out
                            subst eo25
                            have p139 : 0 ≤ (x14_2 : Int) := of_decide_eq_true (by first | (with_reducible assumption) | assumption)
                            have q139 : x14_2 < (t132.length : Int) := of_decide_eq_true (by first | (with_reducible assumption) | assumption)
                            obtain ⟨ad139, e139, hx139_0⟩ := Kd.at_int (Kd.R_reads' HO_12.out).2.2 x14_2 p139 q139
                            cases e139
                            replace p139 := eq_true p139
                            replace q139 := eq_true q139
                            go_wp2
                            go_ret
                            exact ⟨by first | rfl | (simp [errW_none, errW_some] <;> rfl) | (simp [*, errW_none, errW_some] <;> rfl), by repeat (first | (with_reducible first | exact HB.out | apply below_alloc | apply pw_below_drewN | apply below_drew1) | exact HB.out)⟩
                        · rw [if_neg c22] at H
                          exact absurd H (by simp)
                      · rw [if_neg c21] at H
                        exact absurd H (by simp)
                    · rw [if_neg c20] at H
                      have c20b0 : decide ((wrap64 (1 + (Go.bits .and .i64 a0 7))) ≤ x14_2) = false := decide_eq_false c20
                      clear c20
                      by_cases c26 : 0 ≤ x14_2
                      · rw [if_pos c26] at H
                        have c26b0 : decide (0 ≤ x14_2) = true := decide_eq_true c26
                        clear c26
                        by_cases c27 : x14_2 < (t132.length : Int)
                        · rw [if_pos c27] at H
                          have c27b0 : decide (x14_2 < (t132.length : Int)) = true := decide_eq_true c27
                          clear c27
                          by_cases c28 : (rd t132 x14_2) = 0
                          · rw [if_pos c28] at H
                            have c28b0 : ((rd t132 x14_2) == 0) = true := beq_iff_eq.mpr c28
                            have c28b1 : ((rd t132 x14_2) != 0) = false := bne_eq_false_iff_eq.mpr c28
                            clear c28
                            have H' := Aside0.mk H
                            clear H
                            obtain ⟨Ao29, co29, eo29⟩ := Kd.R_slice HO_12.out
                            subst eo29
                            have p140 : 0 ≤ (x14_2 : Int) := of_decide_eq_true (by first | (with_reducible assumption) | assumption)
                            have q140 : x14_2 < (t132.length : Int) := of_decide_eq_true (by first | (with_reducible assumption) | assumption)
                            obtain ⟨ad140, e140, hx140_0⟩ := Kd.at_int (Kd.R_reads' HO_12.out).2.2 x14_2 p140 q140
                            cases e140
                            replace p140 := eq_true p140
                            replace q140 := eq_true q140
                            go_wp2
                            go_roundg k2
                            case measure => have := HK1.out; have := HK2.out; omega
                            case rel => exact ⟨(wrap64 (x14_2 + 1)), (by first | rfl | (simp; done) | (simp [*]; done)), H', ⟨by have := HK1.out; have := HK2.out; omega⟩, ⟨by (with_reducible repeat (first | apply Kd.R_alloc | apply Kd.R_drewN | apply Kd.R_drew)); exact HO_12.out⟩, ⟨by repeat (first | (with_reducible first | exact HB.out | apply below_alloc | apply pw_below_drewN | apply below_drew1) | exact HB.out)⟩⟩
                          · rw [if_neg c28] at H
                            have c28b0 : ((rd t132 x14_2) == 0) = false := beq_eq_false_iff_ne.mpr c28
                            have c28b1 : ((rd t132 x14_2) != 0) = true := bne_iff_ne.mpr c28
                            obtain rfl := Option.some.inj H
                            obtain ⟨Ao30, co30, eo30⟩ := Kd.R_slice HO_12.out
                            subst eo30
                            have p140 : 0 ≤ (x14_2 : Int) := of_decide_eq_true (by first | (with_reducible assumption) | assumption)
                            have q140 : x14_2 < (t132.length : Int) := of_decide_eq_true (by first | (with_reducible assumption) | assumption)
                            obtain ⟨ad140, e140, hx140_0⟩ := Kd.at_int (Kd.R_reads' HO_12.out).2.2 x14_2 p140 q140
                            cases e140
                            replace p140 := eq_true p140
                            replace q140 := eq_true q140
                            go_wp2
                            go_ret
                            exact ⟨by first | rfl | (simp [errW_none, errW_some] <;> rfl) | (simp [*, errW_none, errW_some] <;> rfl), by repeat (first | (with_reducible first | exact HB.out | apply below_alloc | apply pw_below_drewN | apply below_drew1) | exact HB.out)⟩
                        · rw [if_neg c27] at H
                          exact absurd H (by simp)
                      · rw [if_neg c26] at H
                        exact absurd H (by simp)
                  · rw [if_neg c19] at H
                    have c19b0 : decide (x14_2 < (wrap64 ((wrap64 (1 + (Go.bits .and .i64 a0 7))) + (Go.bits .and .i64 a1 7)))) = false := decide_eq_false c19
                    clear c19
                    obtain ⟨ji31, hji31⟩ : ∃ j_ : Int, (wrap64 ((wrap64 (1 + (Go.bits .and .i64 a0 7))) + (Go.bits .and .i64 a1 7))) = j_ := ⟨_, rfl⟩
                    replace H : (if 0 ≤ (ji31) then (if (ji31) < (t132.length : Int) then (if (rd t132 (ji31)) = (wrap64 (Int.tmod (IntKind.u64.wrap (a2)) 800)) then (if 0 ≤ (wrap64 ((ji31) + 1)) then (if (wrap64 ((ji31) + 1)) < (t132.length : Int) then (if (rd t132 (wrap64 ((ji31) + 1))) = 0 then (if 0 ≤ (wrap64 ((ji31) + 2)) then (if (wrap64 ((ji31) + 2)) < (t132.length : Int) then (some ((rd t132 (wrap64 ((ji31) + 2))) == (-2))) else (none)) else (none)) else (some false)) else (none)) else (none)) else (some false)) else (none)) else (none)) = some r := by first | (rw [hji31] at H; exact H) | (simp only [hji31] at H ⊢; exact H)
                    (try rw [hji31] at c7b0)
                    (try rw [hji31] at c19b0)
                    have hji31w : (IntKind.i64.wrap ((wrap64 (1 + (Go.bits .and .i64 a0 7))) + (Go.bits .and .i64 a1 7))) = ji31 := (i64_w _).trans hji31
                    by_cases c32 : 0 ≤ (ji31)
                    · rw [if_pos c32] at H
                      have c32b0 : decide (0 ≤ (ji31)) = true := decide_eq_true c32
                      clear c32
                      by_cases c33 : (ji31) < (t132.length : Int)
                      · rw [if_pos c33] at H
                        have c33b0 : decide ((ji31) < (t132.length : Int)) = true := decide_eq_true c33
                        clear c33
                        by_cases c34 : (rd t132 (ji31)) = (wrap64 (Int.tmod (IntKind.u64.wrap (a2)) 800))
                        · rw [if_pos c34] at H
                          have c34b0 : ((rd t132 (ji31)) == (wrap64 (Int.tmod (IntKind.u64.wrap (a2)) 800))) = true := beq_iff_eq.mpr c34
                          have c34b1 : ((rd t132 (ji31)) != (wrap64 (Int.tmod (IntKind.u64.wrap (a2)) 800))) = false := bne_eq_false_iff_eq.mpr c34
                          clear c34
                          obtain ⟨ji35, hji35⟩ : ∃ j_ : Int, (wrap64 ((ji31) + 1)) = j_ := ⟨_, rfl⟩
                          replace H : (if 0 ≤ (ji35) then (if (ji35) < (t132.length : Int) then (if (rd t132 (ji35)) = 0 then (if 0 ≤ (wrap64 ((ji31) + 2)) then (if (wrap64 ((ji31) + 2)) < (t132.length : Int) then (some ((rd t132 (wrap64 ((ji31) + 2))) == (-2))) else (none)) else (none)) else (some false)) else (none)) else (none)) = some r := by first | (rw [hji35] at H; exact H) | (simp only [hji35] at H ⊢; exact H)
                          have hji35w : (IntKind.i64.wrap ((ji31) + 1)) = ji35 := (i64_w _).trans hji35
                          by_cases c36 : 0 ≤ (ji35)
                          · rw [if_pos c36] at H
                            have c36b0 : decide (0 ≤ (ji35)) = true := decide_eq_true c36
                            clear c36
                            by_cases c37 : (ji35) < (t132.length : Int)
                            · rw [if_pos c37] at H
                              have c37b0 : decide ((ji35) < (t132.length : Int)) = true := decide_eq_true c37
                              clear c37
                              by_cases c38 : (rd t132 (ji35)) = 0
                              · rw [if_pos c38] at H
                                have c38b0 : ((rd t132 (ji35)) == 0) = true := beq_iff_eq.mpr c38
                                have c38b1 : ((rd t132 (ji35)) != 0) = false := bne_eq_false_iff_eq.mpr c38
                                clear c38
                                obtain ⟨ji39, hji39⟩ : ∃ j_ : Int, (wrap64 ((ji31) + 2)) = j_ := ⟨_, rfl⟩
                                replace H : (if 0 ≤ (ji39) then (if (ji39) < (t132.length : Int) then (some ((rd t132 (ji39)) == (-2))) else (none)) else (none)) = some r := by first | (rw [hji39] at H; exact H) | (simp only [hji39] at H ⊢; exact H)
                                have hji39w : (IntKind.i64.wrap ((ji31) + 2)) = ji39 := (i64_w _).trans hji39
                                by_cases c40 : 0 ≤ (ji39)
                                · rw [if_pos c40] at H
                                  have c40b0 : decide (0 ≤ (ji39)) = true := decide_eq_true c40
                                  clear c40
                                  by_cases c41 : (ji39) < (t132.length : Int)
                                  · rw [if_pos c41] at H
                                    have c41b0 : decide ((ji39) < (t132.length : Int)) = true := decide_eq_true c41
                                    clear c41
                                    obtain rfl := Option.some.inj H
                                    obtain ⟨Ao42, co42, eo42⟩ := Kd.R_slice HO_12.out
                                    subst eo42
                                    have p136 : 0 ≤ ((ji31) : Int) := of_decide_eq_true (by first | (with_reducible assumption) | assumption)
                                    have q136 : (ji31) < (t132.length : Int) := of_decide_eq_true (by first | (with_reducible assumption) | assumption)
                                    obtain ⟨ad136, e136, hx136_0⟩ := Kd.at_int (Kd.R_reads' HO_12.out).2.2 (ji31) p136 q136
                                    cases e136
                                    replace p136 := eq_true p136
                                    replace q136 := eq_true q136
                                    have p137 : 0 ≤ ((ji35) : Int) := of_decide_eq_true (by first | (with_reducible assumption) | assumption)
                                    have q137 : (ji35) < (t132.length : Int) := of_decide_eq_true (by first | (with_reducible assumption) | assumption)
                                    obtain ⟨ad137, e137, hx137_0⟩ := Kd.at_int (Kd.R_reads' HO_12.out).2.2 (ji35) p137 q137
                                    obtain rfl : ad136 = ad137 := (by injection e137)
                                    replace p137 := eq_true p137
                                    replace q137 := eq_true q137
                                    have p138 : 0 ≤ ((ji39) : Int) := of_decide_eq_true (by first | (with_reducible assumption) | assumption)
                                    have q138 : (ji39) < (t132.length : Int) := of_decide_eq_true (by first | (with_reducible assumption) | assumption)
                                    obtain ⟨ad138, e138, hx138_0⟩ := Kd.at_int (Kd.R_reads' HO_12.out).2.2 (ji39) p138 q138
                                    obtain rfl : ad136 = ad138 := (by injection e138)
                                    replace p138 := eq_true p138
                                    replace q138 := eq_true q138
                                    go_wp2
                                    go_ret
                                    exact ⟨by first | rfl | (simp [errW_none, errW_some] <;> rfl) | (simp only [← hji31, ← hji35, ← hji39]; first | rfl | (simp [errW_none, errW_some] <;> rfl)) | (simp [*, errW_none, errW_some] <;> rfl), by repeat (first | (with_reducible first | exact HB.out | apply below_alloc | apply pw_below_drewN | apply below_drew1) | exact HB.out)⟩
                                  · rw [if_neg c41] at H
                                    exact absurd H (by simp)
                                · rw [if_neg c40] at H
                                  exact absurd H (by simp)
                              · rw [if_neg c38] at H
                                have c38b0 : ((rd t132 (ji35)) == 0) = false := beq_eq_false_iff_ne.mpr c38
                                have c38b1 : ((rd t132 (ji35)) != 0) = true := bne_iff_ne.mpr c38
                                obtain rfl := Option.some.inj H
                                obtain ⟨Ao43, co43, eo43⟩ := Kd.R_slice HO_12.out
                                subst eo43
                                have p136 : 0 ≤ ((ji31) : Int) := of_decide_eq_true (by first | (with_reducible assumption) | assumption)
                                have q136 : (ji31) < (t132.length : Int) := of_decide_eq_true (by first | (with_reducible assumption) | assumption)
                                obtain ⟨ad136, e136, hx136_0⟩ := Kd.at_int (Kd.R_reads' HO_12.out).2.2 (ji31) p136 q136
                                cases e136
                                replace p136 := eq_true p136
                                replace q136 := eq_true q136
                                have p137 : 0 ≤ ((ji35) : Int) := of_decide_eq_true (by first | (with_reducible assumption) | assumption)
                                have q137 : (ji35) < (t132.length : Int) := of_decide_eq_true (by first | (with_reducible assumption) | assumption)
                                obtain ⟨ad137, e137, hx137_0⟩ := Kd.at_int (Kd.R_reads' HO_12.out).2.2 (ji35) p137 q137
                                obtain rfl : ad136 = ad137 := (by injection e137)
                                replace p137 := eq_true p137
                                replace q137 := eq_true q137
                                go_wp2
                                go_ret
                                exact ⟨by first | rfl | (simp [errW_none, errW_some] <;> rfl) | (simp only [← hji31, ← hji35]; first | rfl | (simp [errW_none, errW_some] <;> rfl)) | (simp [*, errW_none, errW_some] <;> rfl), by repeat (first | (with_reducible first | exact HB.out | apply below_alloc | apply pw_below_drewN | apply below_drew1) | exact HB.out)⟩
                            · rw [if_neg c37] at H
                              exact absurd H (by simp)
                          · rw [if_neg c36] at H
                            exact absurd H (by simp)
                        · rw [if_neg c34] at H
                          have c34b0 : ((rd t132 (ji31)) == (wrap64 (Int.tmod (IntKind.u64.wrap (a2)) 800))) = false := beq_eq_false_iff_ne.mpr c34
                          have c34b1 : ((rd t132 (ji31)) != (wrap64 (Int.tmod (IntKind.u64.wrap (a2)) 800))) = true := bne_iff_ne.mpr c34
                          obtain rfl := Option.some.inj H
                          obtain ⟨Ao44, co44, eo44⟩ := Kd.R_slice HO_12.out
                          subst eo44
                          have p136 : 0 ≤ ((ji31) : Int) := of_decide_eq_true (by first | (with_reducible assumption) | assumption)
                          have q136 : (ji31) < (t132.length : Int) := of_decide_eq_true (by first | (with_reducible assumption) | assumption)
                          obtain ⟨ad136, e136, hx136_0⟩ := Kd.at_int (Kd.R_reads' HO_12.out).2.2 (ji31) p136 q136
                          cases e136
                          replace p136 := eq_true p136
                          replace q136 := eq_true q136
                          go_wp2
                          go_ret
                          exact ⟨by first | rfl | (simp [errW_none, errW_some] <;> rfl) | (simp only [← hji31]; first | rfl | (simp [errW_none, errW_some] <;> rfl)) | (simp [*, errW_none, errW_some] <;> rfl), by repeat (first | (with_reducible first | exact HB.out | apply below_alloc | apply pw_below_drewN | apply below_drew1) | exact HB.out)⟩
                      · rw [if_neg c33] at H
                        exact absurd H (by simp)
                    · rw [if_neg c32] at H
                      exact absurd H (by simp)
            · replace c12 := Bool.eq_false_iff.mpr c12
              subst c12
              have H1 : (some false) = some r := by rw [if_neg (show ¬ (false = true) by decide)] at H; exact H
              clear H
              have H := H1
              clear H1
              obtain rfl := Option.some.inj H
              go_wp2_with (first | ((with_reducible refine gate_dst (N := 48) rfl ?_); refine Kd.R_lit k27 _ 27 ?hg (N := 48) ?hd (xs := ([(⟨(⟨#[100, 101, 113]⟩ : ByteArray), 0, 0⟩ : S27), (⟨(⟨#[101, 110, 113]⟩ : ByteArray), (wrap64 (Int.tmod (IntKind.u64.wrap (a2)) 800)), 0⟩ : S27), (⟨(⟨#[101, 110, 113]⟩ : ByteArray), (wrap64 (Int.tmod (IntKind.u64.wrap (a2)) 800)), 0⟩ : S27)] : List (S27))) (inner := [.string (⟨#[100, 101, 113]⟩ : ByteArray), .int .i64 0, .int .i64 0, .string (⟨#[101, 110, 113]⟩ : ByteArray), .int .i64 (wrap64 (Int.tmod (IntKind.u64.wrap (a2)) 800)), .int .i64 0, .string (⟨#[101, 110, 113]⟩ : ByteArray), .int .i64 (wrap64 (Int.tmod (IntKind.u64.wrap (a2)) 800)), .int .i64 0]) (ok := fun _ => True) (okp := fun _ => True) ?hr ?hp (fun _ hk => hk) trivial (Below.refl _ _) (Nat.le_refl _) (by simp) ?_; (case hd => rfl); (case hg => rfl); (case hr => first | (go_simp; done) | (go_simp; rfl)); (case hp => exact (Reps.c3 (show Kd.M k27 _ _ _ (⟨(⟨#[100, 101, 113]⟩ : ByteArray), 0, 0⟩ : S27) [.string (⟨#[100, 101, 113]⟩ : ByteArray), .int .i64 0, .int .i64 0] from (k27_mkM _ _ _ (⟨(⟨#[100, 101, 113]⟩ : ByteArray), 0, 0⟩ : S27) )) (Reps.c3 (show Kd.M k27 _ _ _ (⟨(⟨#[101, 110, 113]⟩ : ByteArray), (wrap64 (Int.tmod (IntKind.u64.wrap (a2)) 800)), 0⟩ : S27) [.string (⟨#[101, 110, 113]⟩ : ByteArray), .int .i64 (wrap64 (Int.tmod (IntKind.u64.wrap (a2)) 800)), .int .i64 0] from (k27_mkM _ _ _ (⟨(⟨#[101, 110, 113]⟩ : ByteArray), (wrap64 (Int.tmod (IntKind.u64.wrap (a2)) 800)), 0⟩ : S27) )) (Reps.c3 (show Kd.M k27 _ _ _ (⟨(⟨#[101, 110, 113]⟩ : ByteArray), (wrap64 (Int.tmod (IntKind.u64.wrap (a2)) 800)), 0⟩ : S27) [.string (⟨#[101, 110, 113]⟩ : ByteArray), .int .i64 (wrap64 (Int.tmod (IntKind.u64.wrap (a2)) 800)), .int .i64 0] from (k27_mkM _ _ _ (⟨(⟨#[101, 110, 113]⟩ : ByteArray), (wrap64 (Int.tmod (IntKind.u64.wrap (a2)) 800)), 0⟩ : S27) )) (Reps.none _ _))))); intro v127 w45 ho46 hb hg_ hnew_; clear hg_ hnew_; (first | rw [← Ny126.out] at ho46 | (simp only [Int.reduceToNat] at ho46; rw [← Ny126.out] at ho46)); have n0_ := Aside0.mk (Kd.R_elder' (by (with_reducible repeat (first | apply Kd.R_alloc | apply Kd.R_drewN | apply Kd.R_drew)); exact HO_10.out) (Kd.R_base ho46) hb); have n1_ := Aside0.mk (Kd.R_lower (Kd.R_new' ho46 (Kd.R_lt (by (with_reducible repeat (first | apply Kd.R_alloc | apply Kd.R_drewN | apply Kd.R_drew)); exact HO_10.out))) (below_size (by repeat (first | (with_reducible first | exact HB.out | apply below_alloc | apply pw_below_drewN | apply below_drew1) | exact HB.out)))); have n2_ := Aside0.mk (below_step (by repeat (first | (with_reducible first | exact HB.out | apply below_alloc | apply pw_below_drewN | apply below_drew1) | exact HB.out)) hb); clear HO_10; clear HB; have HO_10 := n0_; have HO128 := n1_; have HB := n2_; clear n0_ n1_ n2_; clear hb ho46; obtain ⟨Ao48, co48, eo48⟩ := Kd.R_slice HO128.out; subst eo48) | ((with_reducible refine gate_builtin (b := .append) (xs := #[.tmp 42, .tmp 48]) rfl ?_); at_builtin; refine Kd.R_append_rows k27 (w0 := w) w.heap.size rfl (.tmp 42) (.tmp 48) 24 27 (.agg #[(.string ⟨#[]⟩), (.int .i64 0), (.int .i64 0)]) 32 rfl Try.underlying24 info27 rfl (by decide) (by omega) u10 x10_1 y126 _ _ _ (fun k_ => some k_ ≠ (.slice Ao48 y126.length co48 : Value).ownBlock) (fun _ => False) rfl rfl ?aO ?aR (fun _ _ h => h) (fun _ h => h.elim) ?aF ?aB ?aS ?aL ?_; (case aR => repeat (first | exact (Kd.R_reads' HO128.out).2.2 | (with_reducible refine Kd.C_alloc ?_ _) | (with_reducible refine Kd.C_drewN ?_ _) | (with_reducible refine Kd.C_drew ?_))); (case aB => exact (by repeat (first | (with_reducible first | exact HB.out | apply below_alloc | apply pw_below_drewN | apply below_drew1) | exact HB.out))); (case aF => exact (fun k_ hk => Kd.fresh' (Kd.R_lt (by (with_reducible repeat (first | apply Kd.R_alloc | apply Kd.R_drewN | apply Kd.R_drew)); exact HO128.out)) k_ hk)); (case aO => exact (by (with_reducible repeat (first | apply Kd.R_alloc | apply Kd.R_drewN | apply Kd.R_drew)); exact Kd.R_mono HO_10.out (fun _ hk => hk.2))); (case aS => exact (below_size (by repeat (first | (with_reducible first | exact HB.out | apply below_alloc | apply pw_below_drewN | apply below_drew1) | exact HB.out)))); (case aL => have := LMc10.out; omega); intro v130 w47 ho hb hg hat; rw [← Ny129.out] at ho; have n0_ := Aside0.mk (Kd.R_after (ok := (fun _ => True)) (by (with_reducible repeat (first | apply Kd.R_alloc | apply Kd.R_drewN | apply Kd.R_drew)); exact HO128.out) hg hat); have n1_ := Aside0.mk (hb); have n2_ := Aside0.mk (ho); clear HO128; clear HB; clear HO_10; have HO128 := n0_; have HB := n1_; have HO131 := n2_; clear n0_ n1_ n2_; clear ho hb hg hat; obtain ⟨Ao49, co49, eo49⟩ := Kd.R_slice HO131.out; subst eo49) | ((with_reducible refine gate_callee (f := 16) rfl ?_); refine goesL_ (some 53) rfl rfl Try.func16 (by kernel_rfl) rfl #[.int .i64 3, .int .i64 (wrap64 (1 + (Go.bits .and .i64 a0 7))), .slice Ao49 y129.length co49] rfl (by (try simp only [List.map_toArray, List.map_cons, List.map_nil]); first | done | rfl | (simp only [List.length_drop, List.length_take]; rfl)) ?_; (with_reducible refine (locklesslaw18_run.calls 3 (wrap64 (1 + (Go.bits .and .i64 a0 7))) _ _ y129 t132 false _ ?side1 ?side2 A11.out).mono ?_); (case side1 => repeat (first | exact (Kd.R_reads' HO131.out).2.2 | (with_reducible refine Kd.C_alloc ?_ _) | (with_reducible refine Kd.C_drewN ?_ _) | (with_reducible refine Kd.C_drew ?_))); (case side2 => exact (Kd.R_reads' HO131.out).2.1); rintro e w50 ⟨v134, rfl, ho0, hb⟩; refine ⟨_, rfl, ?_⟩; have n0_ := Aside0.mk (Kd.R_below (by (with_reducible repeat (first | apply Kd.R_alloc | apply Kd.R_drewN | apply Kd.R_drew)); exact HO128.out) hb); have n1_ := Aside0.mk (Kd.R_below (by (with_reducible repeat (first | apply Kd.R_alloc | apply Kd.R_drewN | apply Kd.R_drew)); exact HO131.out) hb); have n2_ := Aside0.mk (Kd.R_lower ho0 (below_size (by repeat (first | (with_reducible first | exact HB.out | apply below_alloc | apply pw_below_drewN | apply below_drew1) | exact HB.out)))); have n3_ := Aside0.mk (below_step (by repeat (first | (with_reducible first | exact HB.out | apply below_alloc | apply pw_below_drewN | apply below_drew1) | exact HB.out)) hb); clear HO128; clear HO131; clear HB; have HO128 := n0_; have HO131 := n1_; have HO135 := n2_; have HB := n3_; clear n0_ n1_ n2_ n3_; (try clear hb); (try clear hb2); (try clear hk); (try clear hi); (try clear ho0)))
              go_ret
              exact ⟨by first | rfl | (simp [errW_none, errW_some] <;> rfl) | (simp [*, errW_none, errW_some] <;> rfl), by repeat (first | (with_reducible first | exact HB.out | apply below_alloc | apply pw_below_drewN | apply below_drew1) | exact HB.out)⟩
          · rw [if_neg c10] at H
            exact absurd H (by simp)
  · replace c5 := Bool.eq_false_iff.mpr c5
    subst c5
    have H1 : (some false) = some r := by rw [if_neg (show ¬ (false = true) by decide)] at H; exact H
    clear H
    have H := H1
    clear H1
    obtain rfl := Option.some.inj H
    go_enter Try.func4, Try.ntmps4
    go_wp2_with (first | ((with_reducible refine gate_callee (f := 15) rfl ?_); refine goesL_ (some 17) rfl rfl Try.func15 (by kernel_rfl) rfl #[] rfl (by (try simp only [List.map_toArray, List.map_cons, List.map_nil]); first | done | rfl | (simp only [List.length_drop, List.length_take]; rfl)) ?_; (with_reducible refine (locklesslaw18_awake.calls  false _ A4.out).mono ?_); rintro e w51 ⟨rfl, hb⟩; refine ⟨_, rfl, ?_⟩; have n0_ := Aside0.mk (below_step (by repeat (first | (with_reducible first | exact HB.out | apply below_alloc | apply pw_below_drewN | apply below_drew1) | exact HB.out)) hb); clear HB; have HB := n0_; clear n0_; (try clear hb); (try clear hb2); (try clear hk); (try clear hi)))
    go_ret
    exact ⟨by first | rfl | (simp [errW_none, errW_some] <;> rfl) | (simp [*, errW_none, errW_some] <;> rfl), by repeat (first | (with_reducible first | exact HB.out | apply below_alloc | apply pw_below_drewN | apply below_drew1) | exact HB.out)⟩

/-- THE ONE PURE STATEMENT of locklesslaw18_SpecRings: yours. -/
def locklesslaw18_SpecRings.Pure : Prop := ∀ (a0 : Int) (a1 : Int) (a2 : Int), (Lit.int .i64 a0).wf = true → (Lit.int .i64 a1).wf = true → (Lit.int .i64 a2).wf = true → ∃ k, locklesslaw18_SpecRings.f k a0 a1 a2 = some true
theorem locklesslaw18_SpecRings.walk (P : locklesslaw18_SpecRings.Pure) (a0 : Int) (a1 : Int) (a2 : Int) (w : World) (w0 : (Lit.int .i64 a0).wf = true) (w1 : (Lit.int .i64 a1).wf = true) (w2 : (Lit.int .i64 a2).wf = true) :
    Calls Try.prog 4 #[.int .i64 a0, .int .i64 a1, .int .i64 a2] w fun e w' => e = .returned (.bool true) ∧ Below w.heap.size w w' := by
  obtain ⟨k, h⟩ := P a0 a1 a2 w0 w1 w2
  refine (locklesslaw18_SpecRings.calls k a0 a1 a2 true w h).mono ?_
  rintro e w' ⟨rfl, hd⟩
  exact ⟨rfl, hd⟩

end Go.Proofs.Ytiialjmpfeopjaa.XRi
