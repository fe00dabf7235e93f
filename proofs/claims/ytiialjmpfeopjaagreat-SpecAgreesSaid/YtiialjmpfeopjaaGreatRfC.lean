/- The document's test of a state, walked: unions, twin stacks, and all together: plain lemmas; no condition. -/
import Derived.Test.YtiialjmpfeopjaaGreatRfB
namespace Go.Proofs.YtiialjmpfeopjaaGreat.Sp
open Go.RowKit Go.Sort Go.Proofs.YtiialjmpfeopjaaGreatW.PrintWords Go.Proofs.YtiialjmpfeopjaaGreatW.PrintLast Go.Proofs.YtiialjmpfeopjaaGreatW.PrintMore
set_option linter.unusedVariables false
set_option linter.unusedSimpArgs false
set_option maxHeartbeats 8000000
set_option maxRecDepth 100000
theorem wordsR_at {lo hi o : Int} {s : List Int} (h : wordsR lo hi o s = true) (k : Nat) (hk : k < s.length) : lo ≤ s.getD k 0 ∧ s.getD k 0 ≤ hi := by
  unfold wordsR at h
  have := (List.all_eq_true.1 h) k (List.mem_range.2 hk)
  unfold okR at this
  have := (Bool.and_eq_true_iff.1 this).1
  unfold inR at this
  have := Bool.and_eq_true_iff.1 this
  exact ⟨of_decide_eq_true this.1, of_decide_eq_true this.2⟩
theorem val_12 (n : Int) (A : Option Addr) (c : Nat) (s : List Int) (w : World) (h : ruleR 12 n = true) (hr : Rd w A s) (hc : s.length ≤ c) (hl : s.length ≤ 24) : ValidAt 12 n A c s (bodyR 12 n s) w := by
  have HR := Aside0.mk (ref_rule 12 n w)
  rw [h] at HR
  rw [show bodyR 12 n s = ((decide (s.length = 8) && wordsR 0 7 0 s) && (List.range 8).all (unionOkR s)) from rfl]
  unfold ValidAt
  clear h
  by_cases h8 : s.length = 8
  · rw [decide_eq_true h8, Bool.true_and]
    have HW := Aside0.mk (ref_words 0 7 0 (.inl rfl) A c s w hr)
    have H8 := Aside0.mk h8
    rw [h8] at HW ⊢
    clear hc hl
    cases hw : wordsR 0 7 0 s with
    | false =>
      rw [hw] at HW
      rw [Bool.false_and]
      clear hr hw h8
      go_enter Tryz.func15, Tryz.ntmps15
      go_wp2_with (first | (go_at_call 18; refine (HR.out).mono ?_; rintro e w1 ⟨rfl, hw⟩; rw [hw]; clear hw) | (go_at_call 32; refine (HW.out).mono ?_; rintro e w2 ⟨rfl, q, hw⟩; have HQ := Aside0.mk hw; clear hw))
      go_ret
      exact ⟨rfl, q, HQ.out⟩
    | true =>
      rw [hw] at HW
      rw [Bool.true_and]
      have HA := Aside0.mk (fun k (hk : k < 8) => wordsR_at hw k (by omega))
      have HRR := Aside0.mk hr
      have HX := Aside0.mk (show ∀ k, k < 8 → unionOkR s k = false → (List.range 8).all (unionOkR s) = false from fun k hk e => by
        rw [List.all_eq_false]
        exact ⟨k, List.mem_range.2 hk, by rw [e]; decide⟩)
      have HY := Aside0.mk (show (∀ k, k < 8 → unionOkR s k = true) → (List.range 8).all (unionOkR s) = true from fun e => by
        rw [List.all_eq_true]
        exact fun k hk => e k (List.mem_range.1 hk))
      clear hr hw h8
      go_enter Tryz.func15, Tryz.ntmps15
      go_wp2_with (first | (go_at_call 18; refine (HR.out).mono ?_; rintro e w1 ⟨rfl, hw⟩; rw [hw]; clear hw) | (go_at_call 32; refine (HW.out).mono ?_; rintro e w2 ⟨rfl, q0, hw⟩; have HQ := Aside0.mk hw; clear hw))
      go_loopg [7] 8 (fun gg v7 wr => ∃ kk q : Nat, kk ≤ 8 ∧ 8 - kk ≤ gg ∧ v7 = .int .i64 kk ∧ wr = w.drewN q ∧ Aside0 (∀ j : Nat, j < kk → unionOkR s j = true))
      case atStart => exact ⟨0, q0, Nat.zero_le _, by omega, rfl, HQ.out, ⟨fun j hj => absurd hj (Nat.not_lt_zero _)⟩⟩
      case round =>
        clear HQ
        obtain ⟨kk, q, hkk, hg, rfl, rfl, B⟩ := hrel
        by_cases hlt : kk < 8
        · obtain ⟨ad, rfl, hc1⟩ := HRR.out.at kk (by rw [H8.out]; omega)
          obtain ⟨h0, h7⟩ := HA.out kk hlt
          obtain ⟨x, hx⟩ : ∃ x : Nat, s.getD kk 0 = (x : Int) := ⟨(s.getD kk 0).toNat, by omega⟩
          rw [hx] at hc1 h0 h7
          have hxl : x < s.length := by rw [H8.out]; omega
          have hxi : (x : Int) < 8 := by omega
          obtain ⟨ad2, ead, hc2⟩ := HRR.out.at x hxl
          obtain rfl : ad = ad2 := Option.some.inj ead
          clear ead
          have hok : unionOkR s kk = (decide ((x : Int) ≤ kk) && (s.getD x 0 == (x : Int))) := by unfold unionOkR; rw [hx, Int.toNat_natCast]
          have HN := Aside0.mk (fun (h : unionOkR s kk = true) (j : Nat) (hj : j < kk + 1) => (show unionOkR s j = true from by
            by_cases e : j = kk
            · rw [e]; exact h
            · exact B.out j (by omega)))
          have HF := Aside0.mk (HX.out kk hlt)
          generalize s.getD x 0 = y at hc2 hok
          clear hx hxl
          by_cases hxk : kk < x
          · have HFF := Aside0.mk (HF.out (by rw [hok, decide_eq_false (by omega)]; rfl))
            clear hok HN HF
            go_wp2
            go_quiet (fail)
            all_goals go_wp2
            all_goals go_ret
            all_goals exact ⟨by rw [HFF.out]; rfl, q + nq, by rw [World.drewN_drewN]⟩
          · have hxk2 : x ≤ kk := by omega
            by_cases hy : y = (x : Int)
            · have HNN := Aside0.mk (HN.out (by rw [hok, decide_eq_true (by omega), hy]; simp))
              subst hy
              clear hok HN HF
              go_wp2
              go_quiet (fail)
              all_goals go_wp2
              all_goals go_roundg (8 - (kk + 1))
              all_goals first
                | omega
                | exact ⟨kk + 1, _, by omega, by omega, by go_num, rfl, HNN⟩
            · have HFF := Aside0.mk (HF.out (by rw [hok, decide_eq_true (by omega)]; simpa using hy))
              have hne : (y != (x : Int)) = true := by simpa using hy
              clear hok HN HF hy
              go_wp2
              go_quiet (fail)
              all_goals go_wp2
              all_goals go_ret
              all_goals exact ⟨by rw [HFF.out]; rfl, q + nq, by rw [World.drewN_drewN]⟩
        · obtain rfl : kk = 8 := by omega
          have HALL := Aside0.mk (HY.out B.out)
          go_wp2
          go_ret
          exact ⟨by rw [HALL.out]; rfl, q, rfl⟩
  · rw [decide_eq_false h8, Bool.false_and, Bool.false_and]
    have hne : ((s.length : Int) != 8) = true := by simp; omega
    clear hr
    go_enter Tryz.func15, Tryz.ntmps15
    go_wp2_with (go_at_call 18; refine (HR.out).mono ?_; rintro e w1 ⟨rfl, hw⟩; rw [hw]; clear hw)
    go_ret
    exact ⟨rfl, 0, rfl⟩
theorem val_15 (n : Int) (A : Option Addr) (c : Nat) (s : List Int) (w : World) (h : ruleR 15 n = true) (hr : Rd w A s) (hc : s.length ≤ c) (hl : s.length ≤ 25) : ValidAt 15 n A c s (bodyR 15 n s) w := by
  have HR := Aside0.mk (ref_rule 15 n w)
  rw [h] at HR
  rw [show bodyR 15 n s = (decide (0 < s.length) && (inR (s.getD 0 0) 0 ((s.length : Int) - 1) && wordsR 0 900 0 (s.drop 1))) from rfl]
  unfold ValidAt
  clear h
  by_cases h0 : 0 < s.length
  · rw [decide_eq_true h0, Bool.true_and]
    obtain ⟨A', hrun, hrd, hdc⟩ := rest_run A c s 1 h0 hc
    replace hrun : ∀ W : World, (Instr.slice 22 (.slice A s.length c) (some (.int .i64 1)) none none).run Tryz.prog W = .ok (.slice A' (s.drop 1).length (c - 1)) W := hrun
    have HW := Aside0.mk (ref_words 0 900 0 (.inl rfl) A' (c - 1) (s.drop 1) w (hrd w hr))
    obtain ⟨ad, rfl, hc1⟩ := hr.at 0 h0
    rw [show ad.add 0 = ad from by simp [Addr.add]] at hc1
    have hwr0 : IntKind.i64.wrap ((s.length : Int) - 1) = (s.length : Int) - 1 := IntWalk.i64_in _ (by omega)
    have HI := Aside0.mk (fun W => ref_in (s.getD 0 0) 0 ((s.length : Int) - 1) W)
    generalize s.getD 0 0 = x at *
    obtain ⟨lm, hlm⟩ : ∃ lm, lm = (s.length : Int) - 1 := ⟨_, rfl⟩
    have hwr : IntKind.i64.wrap ((s.length : Int) - 1) = lm := by rw [hlm]; exact hwr0
    rw [← hlm] at HI ⊢
    clear hlm hwr0
    have hdl : (s.drop 1).length ≤ 25 := by rw [List.length_drop]; omega
    generalize s.drop 1 = d at *
    generalize wordsR 0 900 0 d = b2 at *
    clear hr hrd
    cases hb : inR x 0 lm with
    | true =>
      rw [hb] at HI
      rw [Bool.true_and]
      clear hb
      go_enter Tryz.func15, Tryz.ntmps15
      go_wp2_with (first | (go_at_call 18; refine (HR.out).mono ?_; rintro e w1 ⟨rfl, hw⟩; rw [hw]; clear hw) | (go_at_call 33; refine (HI.out _).mono ?_; rintro e w3 ⟨rfl, hw⟩; rw [hw]; clear hw) | (go_at_call 32; refine (HW.out).mono ?_; rintro e w2 ⟨rfl, q, hw⟩; have HQ := Aside0.mk hw; clear hw))
      go_ret
      exact ⟨rfl, q, HQ.out⟩
    | false =>
      rw [hb] at HI
      rw [Bool.false_and]
      clear hb
      go_enter Tryz.func15, Tryz.ntmps15
      go_wp2_with (first | (go_at_call 18; refine (HR.out).mono ?_; rintro e w1 ⟨rfl, hw⟩; rw [hw]; clear hw) | (go_at_call 33; refine (HI.out _).mono ?_; rintro e w3 ⟨rfl, hw⟩; rw [hw]; clear hw))
      go_ret
      exact ⟨rfl, 0, rfl⟩
  · rw [decide_eq_false h0, Bool.false_and]
    clear hr
    go_enter Tryz.func15, Tryz.ntmps15
    go_wp2_with (go_at_call 18; refine (HR.out).mono ?_; rintro e w1 ⟨rfl, hw⟩; rw [hw]; clear hw)
    go_ret
    exact ⟨rfl, 0, rfl⟩
theorem ref_valid (r n : Int) (A : Option Addr) (c : Nat) (s : List Int) (w : World) (hr : Rd w A s) (hc : s.length ≤ c) : ValidAt r n A c s (validR r n s) w := by
  unfold validR
  cases hq : ruleR r n with
  | false => exact val_norule r n A c s w hq
  | true =>
    rw [Bool.true_and]
    cases hs : sizeR r s with
    | false => exact val_long r n A c s w hq hr.max hs
    | true =>
      rw [Bool.true_and]
      have h25 : s.length ≤ 25 := by
        unfold sizeR at hs
        exact of_decide_eq_true (Bool.and_eq_true_iff.1 hs).1
      have h24 : r ≠ 15 → s.length ≤ 24 := fun e => by
        unfold sizeR at hs
        have := (Bool.and_eq_true_iff.1 hs).2
        rw [decide_eq_false e, Bool.false_or] at this
        exact of_decide_eq_true this
      have h16 : 1 ≤ r ∧ r ≤ 16 := by
        unfold ruleR inR at hq
        have := (Bool.and_eq_true_iff.1 (Bool.and_eq_true_iff.1 hq).1)
        exact ⟨of_decide_eq_true this.1, of_decide_eq_true this.2⟩
      have hcs : r = 1 ∨ r = 2 ∨ r = 3 ∨ r = 4 ∨ r = 5 ∨ r = 6 ∨ r = 7 ∨ r = 8 ∨ r = 9 ∨ r = 10 ∨ r = 11 ∨ r = 12 ∨ r = 13 ∨ r = 14 ∨ r = 15 ∨ r = 16 := by omega
      rcases hcs with rfl | rfl | rfl | rfl | rfl | rfl | rfl | rfl | rfl | rfl | rfl | rfl | rfl | rfl | rfl | rfl
      · exact val_1 n A c s w hq hr hc (h24 (by decide))
      · exact val_2 n A c s w hq hr hc (h24 (by decide))
      · exact val_3 n A c s w hq hr hc (h24 (by decide))
      · exact val_4 n A c s w hq hr hc (h24 (by decide))
      · exact val_5 n A c s w hq hr hc (h24 (by decide))
      · exact val_6 n A c s w hq hr hc (h24 (by decide))
      · exact val_7 n A c s w hq hr hc (h24 (by decide))
      · exact val_8 n A c s w hq hr hc (h24 (by decide))
      · exact val_9 n A c s w hq hr hc (h24 (by decide))
      · exact val_10 n A c s w hq hr hc (h24 (by decide))
      · exact val_11 n A c s w hq hr hc (h24 (by decide))
      · exact val_12 n A c s w hq hr hc (h24 (by decide))
      · exact val_13 n A c s w hq hr hc (h24 (by decide))
      · exact val_14 n A c s w hq hr hc (h24 (by decide))
      · exact val_15 n A c s w hq hr hc h25
      · exact val_16 n A c s w hq hr hc (h24 (by decide))
end Go.Proofs.YtiialjmpfeopjaaGreat.Sp
