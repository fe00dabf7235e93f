/- That a pair never has more than 99 in either half, that move keeps the sum, and that put alone raises it: the law, walked; no condition. -/
import Derived.Test.YtiialjmpfeopjaaXSa1
import Derived.Test.YtiialjmpfeopjaaRfD
import Derived.Test.YtiialjmpfeopjaaPwF
namespace Go.Proofs.Ytiialjmpfeopjaa.PaV
open Go.RowKit Go.Sort Go.Proofs.Ytiialjmpfeopjaa.XSa Go.Proofs.Ytiialjmpfeopjaa.Sp Go.Proofs.YtiialjmpfeopjaaW.PrintWords Go.Proofs.YtiialjmpfeopjaaW.PrintLast Go.Proofs.YtiialjmpfeopjaaW.PrintMore
set_option linter.unusedVariables false
set_option linter.unusedSimpArgs false
set_option maxHeartbeats 8000000
set_option maxRecDepth 100000
theorem awake_true : locklesslaw18_awake.f = some true := by
  unfold locklesslaw18_awake.f spec_Run.f
  have h : Sp.runS 2 1 (List.map callT [(⟨⟨#[101, 110, 113]⟩, 5, 0⟩ : S27), ⟨⟨#[101, 110, 113]⟩, 6, 0⟩, ⟨⟨#[100, 101, 113]⟩, 0, 0⟩]) = some ([0, 0, 5], [6], 0) := Sp.awake_run
  rw [if_pos (by decide), h]
  rfl
theorem bcell {w W : World} (h : Below w.heap.size w W) : (∀ p u, w.cell? p = some u → W.cell? p = some u) := fun p u hp => (h.cell (World.block_lt_of_cell? w p hp)).trans hp
theorem pair_cells {w : World} {base : Nat} {A : Option Addr} {n c : Nat} {a b : Int} (h : Own w base (.slice A n c) [a, b]) : ∃ bv, A = some ⟨bv, 0, none⟩ ∧ n = 2 ∧ bv < w.heap.size ∧ w.cell? ⟨bv, 0, none⟩ = some (.int .i64 a) ∧ w.cell? ⟨bv, 1, none⟩ = some (.int .i64 b) := by
  obtain ⟨bv, cap, e, hlt, h0⟩ := h.cellAt 0 (by simp)
  obtain ⟨bv', cap', e', _, h1⟩ := h.cellAt 1 (by simp)
  injection e with e1 e2 e3
  injection e' with e1' e2' e3'
  rw [e1] at e1'
  injection e1' with e1'
  injection e1' with e1' _ _
  subst e1'
  exact ⟨bv, e1, e2, hlt, h0, h1⟩
theorem pa_walk (A0 : Option Addr) (c0 : Nat) (l0 : List Int) (w : World) (hr : Rd w A0 l0) :
    Calls Try.prog 8 #[.slice A0 l0.length c0] w fun e w' => e = .returned (.bool true) ∧ Below w.heap.size w w' := by
  have HR := Aside0.mk hr
  have hmx := hr.max
  have HST := Aside0.mk (fun W => start_calls 13 1 W)
  rw [start13] at HST
  clear hr
  go_enter Try.func8, Try.ntmps8
  go_wp2_with (first
    | (go_at_call 15; refine (locklesslaw18_awake.calls true _ awake_true).mono ?_; rintro e w1 ⟨rfl, hb⟩; have B1 := Aside0.mk hb; clear hb)
    | (go_at_call 18; refine (HST.out _).mono ?_; rintro e w2 ⟨v2, rfl, ho, hb⟩; have HO := Aside0.mk (ho.lower B1.out.size); have B2 := Aside0.mk (btrans B1.out hb); clear ho hb))
  go_loopg [3, 5, 7, 8, 9, 10, 11, 12, 13] l0.length (fun gg v3 v5 v7 v8 v9 v10 v11 v12 v13 wr => ∃ (kk : Nat) (a b : Int), kk ≤ l0.length ∧ l0.length - kk ≤ gg ∧ v5 = .int .i64 kk ∧ (0 ≤ a ∧ a ≤ 99) ∧ (0 ≤ b ∧ b ≤ 99) ∧ Aside0 (Own wr w.heap.size v3 [a, b]) ∧ Aside0 (Below w.heap.size w wr))
  case atStart => exact ⟨0, 0, 0, Nat.zero_le _, by omega, rfl, by omega, by omega, HO, B2⟩
  case round =>
    clear HO B2
    obtain ⟨kk, a, b, hkk, hgg, rfl, ha, hb, HO, HB⟩ := hrel
    obtain ⟨A3, c3, e3⟩ := HO.out.slice
    subst e3
    obtain ⟨bv, rfl, _, hlt3, k0, k1⟩ := pair_cells HO.out
    by_cases hlt : kk < l0.length
    · by_cases h20 : (kk : Int) < 20
      · obtain ⟨ad, rfl, hc⟩ := (HR.out.below HB.out).at kk hlt
        generalize l0.getD kk 0 = z at hc
        have hc2 : ∀ o, (wr.alloc o).cell? (ad.add kk) = some (.int .i64 z) := fun o => ((al1 wr o).cell (World.block_lt_of_cell? wr _ hc)).trans hc
        have HCAP := Aside0.mk (Kd.R_reads' HO.out.R).2.1
        have hx := word_mod (z / 2) 100 (by decide) (by decide)
        obtain ⟨x, hxe⟩ : ∃ x, wrap64 (Int.tmod (IntKind.u64.wrap (z / 2)) 100) = x := ⟨_, rfl⟩
        rw [hxe] at hx
        cases hbit : (Go.bits .and .i64 z 1 == 1) with
        | true =>
          have HMV := move13 a b x ha hb (by omega)
          rcases HMV with hm | ⟨hm, hm2⟩
          · obtain ⟨cc, hcc⟩ : ∃ cc, cc = a := ⟨_, rfl⟩
            obtain ⟨dd, hdd⟩ : ∃ dd, dd = b := ⟨_, rfl⟩
            have hdo : doS 13 1 [a, b] ⟨#[109, 111, 118, 101]⟩ x 0 3 = some ([cc, dd], 0, 0) := by rw [hcc, hdd]; exact hm
            have hcb : 0 ≤ cc ∧ cc ≤ 99 := by omega
            have hdb : 0 ≤ dd ∧ dd ≤ 99 := by omega
            have HCB := Aside0.mk hcb
            have HDB := Aside0.mk hdb
            have t1 : decide (cc < 0) = false := decide_eq_false (by omega)
            have t2 : decide (dd < 0) = false := decide_eq_false (by omega)
            have t3 : decide (99 < cc) = false := decide_eq_false (by omega)
            have t4 : decide (99 < dd) = false := decide_eq_false (by omega)
            have w1' : IntKind.i64.wrap (cc + dd) = cc + dd := IntWalk.i64_in _ (by omega)
            have w2' : IntKind.i64.wrap (a + b) = a + b := IntWalk.i64_in _ (by omega)
            have w3' : IntKind.i64.wrap (a + b + 0) = cc + dd := by rw [show a + b + 0 = cc + dd by omega]; exact w1'
            have w6' : (cc + dd != a + b) = false := by simp; omega
            have w4' : IntKind.i64.wrap (1000 * cc) = 1000 * cc := IntWalk.i64_in _ (by omega)
            have w5' : IntKind.i64.wrap (1000 * cc + dd) = 1000 * cc + dd := IntWalk.i64_in _ (by omega)
            have HDO := Aside0.mk hdo
            have HBO := Aside0.mk (both13 cc dd hcb hdb)
            have HSM := Aside0.mk (show [a, b] = [cc, dd] from by rw [hcc, hdd])
            clear hdo hcc hdd hcb hdb ha hb hm 
            have tok1 : True := trivial
            go_wp2_with ((go_at_call 19; have _t := tok1; refine (do_calls _ c3 _ (HO.out.rd.below (al1 wr _)) HCAP.out (by simp) HDO.out).mono ?_; rintro e w3 ⟨v3, rfl, ho, hb⟩; obtain ⟨A4, c4, rfl⟩ := ho.slice; obtain ⟨bn, rfl, _, hltn, n0, n1⟩ := pair_cells ho; have HO3 := Aside0.mk (ho.lower (show w.heap.size ≤ _ from by have := HB.out.size; rw [alloc_size]; omega)); have HCAP3 := Aside0.mk (Kd.R_reads' ho.R).2.1; have Q3 := Aside0.mk (btrans (al1 wr _) hb); have N6 := Aside0.mk ((hb.block _ (blk_lt (heap_alloc_new wr _))).trans (heap_alloc_new wr _)); have hc6 := (fun j : Nat => (row_old N6.out j).2); have k0 := bcell Q3.out _ _ k0; have k1 := bcell Q3.out _ _ k1; have HSMW := Aside0.mk (fun (m : Nat) => (show Calls Try.prog 17 #[.slice (some ⟨bv, 0, none⟩) 2 c3, .slice (some ⟨bn, 0, none⟩) 2 c4] (w3.drewN m) (fun e w' => e = .returned (.bool (decide ([a, b] = [cc, dd]))) ∧ ∃ q, w' = w3.drewN q) from (same_at [a, b] [cc, dd] (some ⟨bv, 0, none⟩) (some ⟨bn, 0, none⟩) c3 c4 (w3.drewN m) (HO.out.rd.below (btrans Q3.out (pw_below_drewN (Below.refl _ _) m))) (HO3.out.rd.below (pw_below_drewN (Below.refl _ _) m))).mono (fun e w' h => ⟨h.1, Exists.elim h.2 (fun q hq => ⟨_, hq.trans (World.drewN_drewN _ _ _)⟩)⟩))); clear ho hb tok1; have tok2 : True := trivial))
            rw [decide_eq_true HSM.out] at HSMW
            refine wp_region_quiet_lit (by kernel_rfl) (by kernel_rfl) ?_
            repeat (with_reducible refine wpQuiet_step (fun K hK => ?_); go_simp; (try (rw [if_neg ?hn]; (case hn => simp [undef]))); first | (with_reducible refine hK _ ?_; clear hK K) | (apply Exists.intro; refine ⟨fun _ => ?_, hK _ ?_⟩; (go_at_call 17; exact HSMW.out _); clear hK K))
            with_reducible refine wpQuiet_nil ?_
            intro _ hw'
            obtain ⟨nq, hw''⟩ := hw'
            subst hw''
            go_wp2_with (go_at_call 19; have _t := tok2; refine (do_calls _ c4 _ (HO3.out.rd.below (by repeat (first | exact Below.refl _ _ | apply pw_below_drewN | apply below_drew1))) HCAP3.out (by simp) HBO.out).mono ?_; rintro e w5 ⟨v5, rfl, ho, hb⟩; obtain ⟨A5, c5, rfl⟩ := ho.slice; have Q5 := Aside0.mk (show Below w3.heap.size w3 w5 from Below.trans (by repeat (first | exact Below.refl _ _ | apply pw_below_drewN | apply below_drew1)) hb); have n0 := bcell Q5.out _ _ n0; have n1 := bcell Q5.out _ _ n1; clear ho hb tok2)
            refine wp_region_quiet_lit (by kernel_rfl) (by kernel_rfl) ?_
            repeat (with_reducible refine wpQuiet_step (fun K hK => ?_); go_simp; (try (rw [if_neg ?hn]; (case hn => simp [undef]))); first | (with_reducible refine hK _ ?_; clear hK K) | (apply Exists.intro; refine ⟨fun _ => ?_, hK _ ?_⟩; (fail); clear hK K))
            with_reducible refine wpQuiet_nil ?_
            intro _ hw'
            obtain ⟨nq, hw''⟩ := hw'
            subst hw''
            go_wp2
            go_roundg (l0.length - (kk + 1))
            case measure => omega
            case rel => exact ⟨kk + 1, cc, dd, by omega, by omega, by go_num, HCB.out, HDB.out, ⟨HO3.out.below (by repeat (first | exact Q5.out | apply pw_below_drewN | apply below_drew1))⟩, ⟨HB.out.trans ((btrans Q3.out (by repeat (first | exact Q5.out | apply pw_below_drewN | apply below_drew1))).mono HB.out.size)⟩⟩
          · obtain ⟨cc, hcc⟩ : ∃ cc, cc = a - x := ⟨_, rfl⟩
            obtain ⟨dd, hdd⟩ : ∃ dd, dd = b + x := ⟨_, rfl⟩
            have hdo : doS 13 1 [a, b] ⟨#[109, 111, 118, 101]⟩ x 0 3 = some ([cc, dd], 1, 0) := by rw [hcc, hdd]; exact hm2
            have hcb : 0 ≤ cc ∧ cc ≤ 99 := by omega
            have hdb : 0 ≤ dd ∧ dd ≤ 99 := by omega
            have HCB := Aside0.mk hcb
            have HDB := Aside0.mk hdb
            have t1 : decide (cc < 0) = false := decide_eq_false (by omega)
            have t2 : decide (dd < 0) = false := decide_eq_false (by omega)
            have t3 : decide (99 < cc) = false := decide_eq_false (by omega)
            have t4 : decide (99 < dd) = false := decide_eq_false (by omega)
            have w1' : IntKind.i64.wrap (cc + dd) = cc + dd := IntWalk.i64_in _ (by omega)
            have w2' : IntKind.i64.wrap (a + b) = a + b := IntWalk.i64_in _ (by omega)
            have w3' : IntKind.i64.wrap (a + b + 0) = cc + dd := by rw [show a + b + 0 = cc + dd by omega]; exact w1'
            have w6' : (cc + dd != a + b) = false := by simp; omega
            have w4' : IntKind.i64.wrap (1000 * cc) = 1000 * cc := IntWalk.i64_in _ (by omega)
            have w5' : IntKind.i64.wrap (1000 * cc + dd) = 1000 * cc + dd := IntWalk.i64_in _ (by omega)
            have HDO := Aside0.mk hdo
            have HBO := Aside0.mk (both13 cc dd hcb hdb)
            have HSM := Aside0.mk (show True from by trivial)
            clear hdo hcc hdd hcb hdb ha hb hm hm2
            have tok1 : True := trivial
            go_wp2_with ((go_at_call 19; have _t := tok1; refine (do_calls _ c3 _ (HO.out.rd.below (al1 wr _)) HCAP.out (by simp) HDO.out).mono ?_; rintro e w3 ⟨v3, rfl, ho, hb⟩; obtain ⟨A4, c4, rfl⟩ := ho.slice; obtain ⟨bn, rfl, _, hltn, n0, n1⟩ := pair_cells ho; have HO3 := Aside0.mk (ho.lower (show w.heap.size ≤ _ from by have := HB.out.size; rw [alloc_size]; omega)); have HCAP3 := Aside0.mk (Kd.R_reads' ho.R).2.1; have Q3 := Aside0.mk (btrans (al1 wr _) hb); have N6 := Aside0.mk ((hb.block _ (blk_lt (heap_alloc_new wr _))).trans (heap_alloc_new wr _)); have hc6 := (fun j : Nat => (row_old N6.out j).2); have k0 := bcell Q3.out _ _ k0; have k1 := bcell Q3.out _ _ k1; have HSMW := Aside0.mk (fun (m : Nat) => (show Calls Try.prog 17 #[.slice (some ⟨bv, 0, none⟩) 2 c3, .slice (some ⟨bn, 0, none⟩) 2 c4] (w3.drewN m) (fun e w' => e = .returned (.bool (decide ([a, b] = [cc, dd]))) ∧ ∃ q, w' = w3.drewN q) from (same_at [a, b] [cc, dd] (some ⟨bv, 0, none⟩) (some ⟨bn, 0, none⟩) c3 c4 (w3.drewN m) (HO.out.rd.below (btrans Q3.out (pw_below_drewN (Below.refl _ _) m))) (HO3.out.rd.below (pw_below_drewN (Below.refl _ _) m))).mono (fun e w' h => ⟨h.1, Exists.elim h.2 (fun q hq => ⟨_, hq.trans (World.drewN_drewN _ _ _)⟩)⟩))); clear ho hb tok1; have tok2 : True := trivial))
            refine wp_region_quiet_lit (by kernel_rfl) (by kernel_rfl) ?_
            repeat (with_reducible refine wpQuiet_step (fun K hK => ?_); go_simp; (try (rw [if_neg ?hn]; (case hn => simp [undef]))); first | (with_reducible refine hK _ ?_; clear hK K) | (apply Exists.intro; refine ⟨fun _ => ?_, hK _ ?_⟩; (fail); clear hK K))
            with_reducible refine wpQuiet_nil ?_
            intro _ hw'
            obtain ⟨nq, hw''⟩ := hw'
            subst hw''
            go_wp2_with (go_at_call 19; have _t := tok2; refine (do_calls _ c4 _ (HO3.out.rd.below (by repeat (first | exact Below.refl _ _ | apply pw_below_drewN | apply below_drew1))) HCAP3.out (by simp) HBO.out).mono ?_; rintro e w5 ⟨v5, rfl, ho, hb⟩; obtain ⟨A5, c5, rfl⟩ := ho.slice; have Q5 := Aside0.mk (show Below w3.heap.size w3 w5 from Below.trans (by repeat (first | exact Below.refl _ _ | apply pw_below_drewN | apply below_drew1)) hb); have n0 := bcell Q5.out _ _ n0; have n1 := bcell Q5.out _ _ n1; clear ho hb tok2)
            refine wp_region_quiet_lit (by kernel_rfl) (by kernel_rfl) ?_
            repeat (with_reducible refine wpQuiet_step (fun K hK => ?_); go_simp; (try (rw [if_neg ?hn]; (case hn => simp [undef]))); first | (with_reducible refine hK _ ?_; clear hK K) | (apply Exists.intro; refine ⟨fun _ => ?_, hK _ ?_⟩; (fail); clear hK K))
            with_reducible refine wpQuiet_nil ?_
            intro _ hw'
            obtain ⟨nq, hw''⟩ := hw'
            subst hw''
            go_wp2
            go_roundg (l0.length - (kk + 1))
            case measure => omega
            case rel => exact ⟨kk + 1, cc, dd, by omega, by omega, by go_num, HCB.out, HDB.out, ⟨HO3.out.below (by repeat (first | exact Q5.out | apply pw_below_drewN | apply below_drew1))⟩, ⟨HB.out.trans ((btrans Q3.out (by repeat (first | exact Q5.out | apply pw_below_drewN | apply below_drew1))).mono HB.out.size)⟩⟩
        | false =>
          have HPU := put13 a b x ha hb (by omega)
          rcases HPU with ⟨hm, hm2⟩ | ⟨hm, hm2⟩
          · obtain ⟨cc, hcc⟩ : ∃ cc, cc = a := ⟨_, rfl⟩
            obtain ⟨dd, hdd⟩ : ∃ dd, dd = b := ⟨_, rfl⟩
            have hdo : doS 13 1 [a, b] ⟨#[112, 117, 116]⟩ x 0 3 = some ([cc, dd], 0, 0) := by rw [hcc, hdd]; exact hm2
            have hcb : 0 ≤ cc ∧ cc ≤ 99 := by omega
            have hdb : 0 ≤ dd ∧ dd ≤ 99 := by omega
            have HCB := Aside0.mk hcb
            have HDB := Aside0.mk hdb
            have t1 : decide (cc < 0) = false := decide_eq_false (by omega)
            have t2 : decide (dd < 0) = false := decide_eq_false (by omega)
            have t3 : decide (99 < cc) = false := decide_eq_false (by omega)
            have t4 : decide (99 < dd) = false := decide_eq_false (by omega)
            have w1' : IntKind.i64.wrap (cc + dd) = cc + dd := IntWalk.i64_in _ (by omega)
            have w2' : IntKind.i64.wrap (a + b) = a + b := IntWalk.i64_in _ (by omega)
            have w3' : IntKind.i64.wrap (a + b + 0) = cc + dd := by rw [show a + b + 0 = cc + dd by omega]; exact w1'
            have w6' : (cc + dd != a + b) = false := by simp; omega
            have w4' : IntKind.i64.wrap (1000 * cc) = 1000 * cc := IntWalk.i64_in _ (by omega)
            have w5' : IntKind.i64.wrap (1000 * cc + dd) = 1000 * cc + dd := IntWalk.i64_in _ (by omega)
            have HDO := Aside0.mk hdo
            have HBO := Aside0.mk (both13 cc dd hcb hdb)
            have HSM := Aside0.mk (show [a, b] = [cc, dd] from by rw [hcc, hdd])
            clear hdo hcc hdd hcb hdb ha hb hm hm2
            have tok1 : True := trivial
            go_wp2_with ((go_at_call 19; have _t := tok1; refine (do_calls _ c3 _ (HO.out.rd.below (al1 wr _)) HCAP.out (by simp) HDO.out).mono ?_; rintro e w3 ⟨v3, rfl, ho, hb⟩; obtain ⟨A4, c4, rfl⟩ := ho.slice; obtain ⟨bn, rfl, _, hltn, n0, n1⟩ := pair_cells ho; have HO3 := Aside0.mk (ho.lower (show w.heap.size ≤ _ from by have := HB.out.size; rw [alloc_size]; omega)); have HCAP3 := Aside0.mk (Kd.R_reads' ho.R).2.1; have Q3 := Aside0.mk (btrans (al1 wr _) hb); have N6 := Aside0.mk ((hb.block _ (blk_lt (heap_alloc_new wr _))).trans (heap_alloc_new wr _)); have hc6 := (fun j : Nat => (row_old N6.out j).2); have k0 := bcell Q3.out _ _ k0; have k1 := bcell Q3.out _ _ k1; have HSMW := Aside0.mk (fun (m : Nat) => (show Calls Try.prog 17 #[.slice (some ⟨bv, 0, none⟩) 2 c3, .slice (some ⟨bn, 0, none⟩) 2 c4] (w3.drewN m) (fun e w' => e = .returned (.bool (decide ([a, b] = [cc, dd]))) ∧ ∃ q, w' = w3.drewN q) from (same_at [a, b] [cc, dd] (some ⟨bv, 0, none⟩) (some ⟨bn, 0, none⟩) c3 c4 (w3.drewN m) (HO.out.rd.below (btrans Q3.out (pw_below_drewN (Below.refl _ _) m))) (HO3.out.rd.below (pw_below_drewN (Below.refl _ _) m))).mono (fun e w' h => ⟨h.1, Exists.elim h.2 (fun q hq => ⟨_, hq.trans (World.drewN_drewN _ _ _)⟩)⟩))); clear ho hb tok1; have tok2 : True := trivial))
            rw [decide_eq_true HSM.out] at HSMW
            refine wp_region_quiet_lit (by kernel_rfl) (by kernel_rfl) ?_
            repeat (with_reducible refine wpQuiet_step (fun K hK => ?_); go_simp; (try (rw [if_neg ?hn]; (case hn => simp [undef]))); first | (with_reducible refine hK _ ?_; clear hK K) | (apply Exists.intro; refine ⟨fun _ => ?_, hK _ ?_⟩; (go_at_call 17; exact HSMW.out _); clear hK K))
            with_reducible refine wpQuiet_nil ?_
            intro _ hw'
            obtain ⟨nq, hw''⟩ := hw'
            subst hw''
            go_wp2_with (go_at_call 19; have _t := tok2; refine (do_calls _ c4 _ (HO3.out.rd.below (by repeat (first | exact Below.refl _ _ | apply pw_below_drewN | apply below_drew1))) HCAP3.out (by simp) HBO.out).mono ?_; rintro e w5 ⟨v5, rfl, ho, hb⟩; obtain ⟨A5, c5, rfl⟩ := ho.slice; have Q5 := Aside0.mk (show Below w3.heap.size w3 w5 from Below.trans (by repeat (first | exact Below.refl _ _ | apply pw_below_drewN | apply below_drew1)) hb); have n0 := bcell Q5.out _ _ n0; have n1 := bcell Q5.out _ _ n1; clear ho hb tok2)
            refine wp_region_quiet_lit (by kernel_rfl) (by kernel_rfl) ?_
            repeat (with_reducible refine wpQuiet_step (fun K hK => ?_); go_simp; (try (rw [if_neg ?hn]; (case hn => simp [undef]))); first | (with_reducible refine hK _ ?_; clear hK K) | (apply Exists.intro; refine ⟨fun _ => ?_, hK _ ?_⟩; (fail); clear hK K))
            with_reducible refine wpQuiet_nil ?_
            intro _ hw'
            obtain ⟨nq, hw''⟩ := hw'
            subst hw''
            go_wp2
            go_roundg (l0.length - (kk + 1))
            case measure => omega
            case rel => exact ⟨kk + 1, cc, dd, by omega, by omega, by go_num, HCB.out, HDB.out, ⟨HO3.out.below (by repeat (first | exact Q5.out | apply pw_below_drewN | apply below_drew1))⟩, ⟨HB.out.trans ((btrans Q3.out (by repeat (first | exact Q5.out | apply pw_below_drewN | apply below_drew1))).mono HB.out.size)⟩⟩
          · obtain ⟨cc, hcc⟩ : ∃ cc, cc = a + x := ⟨_, rfl⟩
            obtain ⟨dd, hdd⟩ : ∃ dd, dd = b := ⟨_, rfl⟩
            have hdo : doS 13 1 [a, b] ⟨#[112, 117, 116]⟩ x 0 3 = some ([cc, dd], 1, 0) := by rw [hcc, hdd]; exact hm2
            have hcb : 0 ≤ cc ∧ cc ≤ 99 := by omega
            have hdb : 0 ≤ dd ∧ dd ≤ 99 := by omega
            have HCB := Aside0.mk hcb
            have HDB := Aside0.mk hdb
            have t1 : decide (cc < 0) = false := decide_eq_false (by omega)
            have t2 : decide (dd < 0) = false := decide_eq_false (by omega)
            have t3 : decide (99 < cc) = false := decide_eq_false (by omega)
            have t4 : decide (99 < dd) = false := decide_eq_false (by omega)
            have w1' : IntKind.i64.wrap (cc + dd) = cc + dd := IntWalk.i64_in _ (by omega)
            have w2' : IntKind.i64.wrap (a + b) = a + b := IntWalk.i64_in _ (by omega)
            have w3' : IntKind.i64.wrap (a + b + x) = cc + dd := by rw [show a + b + x = cc + dd by omega]; exact w1'
            have w6' : (cc + dd != a + b + x) = false := by simp; omega
            have w4' : IntKind.i64.wrap (1000 * cc) = 1000 * cc := IntWalk.i64_in _ (by omega)
            have w5' : IntKind.i64.wrap (1000 * cc + dd) = 1000 * cc + dd := IntWalk.i64_in _ (by omega)
            have HDO := Aside0.mk hdo
            have HBO := Aside0.mk (both13 cc dd hcb hdb)
            have HSM := Aside0.mk (show True from by trivial)
            clear hdo hcc hdd hcb hdb ha hb hm hm2
            have tok1 : True := trivial
            go_wp2_with ((go_at_call 19; have _t := tok1; refine (do_calls _ c3 _ (HO.out.rd.below (al1 wr _)) HCAP.out (by simp) HDO.out).mono ?_; rintro e w3 ⟨v3, rfl, ho, hb⟩; obtain ⟨A4, c4, rfl⟩ := ho.slice; obtain ⟨bn, rfl, _, hltn, n0, n1⟩ := pair_cells ho; have HO3 := Aside0.mk (ho.lower (show w.heap.size ≤ _ from by have := HB.out.size; rw [alloc_size]; omega)); have HCAP3 := Aside0.mk (Kd.R_reads' ho.R).2.1; have Q3 := Aside0.mk (btrans (al1 wr _) hb); have N6 := Aside0.mk ((hb.block _ (blk_lt (heap_alloc_new wr _))).trans (heap_alloc_new wr _)); have hc6 := (fun j : Nat => (row_old N6.out j).2); have k0 := bcell Q3.out _ _ k0; have k1 := bcell Q3.out _ _ k1; have HSMW := Aside0.mk (fun (m : Nat) => (show Calls Try.prog 17 #[.slice (some ⟨bv, 0, none⟩) 2 c3, .slice (some ⟨bn, 0, none⟩) 2 c4] (w3.drewN m) (fun e w' => e = .returned (.bool (decide ([a, b] = [cc, dd]))) ∧ ∃ q, w' = w3.drewN q) from (same_at [a, b] [cc, dd] (some ⟨bv, 0, none⟩) (some ⟨bn, 0, none⟩) c3 c4 (w3.drewN m) (HO.out.rd.below (btrans Q3.out (pw_below_drewN (Below.refl _ _) m))) (HO3.out.rd.below (pw_below_drewN (Below.refl _ _) m))).mono (fun e w' h => ⟨h.1, Exists.elim h.2 (fun q hq => ⟨_, hq.trans (World.drewN_drewN _ _ _)⟩)⟩))); clear ho hb tok1; have tok2 : True := trivial))
            refine wp_region_quiet_lit (by kernel_rfl) (by kernel_rfl) ?_
            repeat (with_reducible refine wpQuiet_step (fun K hK => ?_); go_simp; (try (rw [if_neg ?hn]; (case hn => simp [undef]))); first | (with_reducible refine hK _ ?_; clear hK K) | (apply Exists.intro; refine ⟨fun _ => ?_, hK _ ?_⟩; (fail); clear hK K))
            with_reducible refine wpQuiet_nil ?_
            intro _ hw'
            obtain ⟨nq, hw''⟩ := hw'
            subst hw''
            go_wp2_with (go_at_call 19; have _t := tok2; refine (do_calls _ c4 _ (HO3.out.rd.below (by repeat (first | exact Below.refl _ _ | apply pw_below_drewN | apply below_drew1))) HCAP3.out (by simp) HBO.out).mono ?_; rintro e w5 ⟨v5, rfl, ho, hb⟩; obtain ⟨A5, c5, rfl⟩ := ho.slice; have Q5 := Aside0.mk (show Below w3.heap.size w3 w5 from Below.trans (by repeat (first | exact Below.refl _ _ | apply pw_below_drewN | apply below_drew1)) hb); have n0 := bcell Q5.out _ _ n0; have n1 := bcell Q5.out _ _ n1; clear ho hb tok2)
            refine wp_region_quiet_lit (by kernel_rfl) (by kernel_rfl) ?_
            repeat (with_reducible refine wpQuiet_step (fun K hK => ?_); go_simp; (try (rw [if_neg ?hn]; (case hn => simp [undef]))); first | (with_reducible refine hK _ ?_; clear hK K) | (apply Exists.intro; refine ⟨fun _ => ?_, hK _ ?_⟩; (fail); clear hK K))
            with_reducible refine wpQuiet_nil ?_
            intro _ hw'
            obtain ⟨nq, hw''⟩ := hw'
            subst hw''
            go_wp2
            go_roundg (l0.length - (kk + 1))
            case measure => omega
            case rel => exact ⟨kk + 1, cc, dd, by omega, by omega, by go_num, HCB.out, HDB.out, ⟨HO3.out.below (by repeat (first | exact Q5.out | apply pw_below_drewN | apply below_drew1))⟩, ⟨HB.out.trans ((btrans Q3.out (by repeat (first | exact Q5.out | apply pw_below_drewN | apply below_drew1))).mono HB.out.size)⟩⟩
      · have hk20 : decide ((kk : Int) < 20) = false := decide_eq_false h20
        go_wp2
        go_ret
        exact ⟨rfl, HB.out⟩
    · go_wp2
      go_ret
      exact ⟨rfl, HB.out⟩
theorem pairs_row (a0 : Option Addr) (len0 cap0 : Nat) (z0 : List Int) (w : World) (w0 : (a0 = none ∧ len0 = 0 ∧ cap0 = 0 ∧ z0 = []) ∨ ∃ x, a0 = some x ∧ len0 ≤ cap0 ∧ cap0 ≤ maxLen ∧ z0.length = cap0 ∧ (∀ i, i < z0.length → w.cell? (x.add i) = some (.int .i64 (z0.getD i 0))) ∧ ∀ n ∈ z0, (Lit.int .i64 n).wf = true) (_y0 : len0 * 8 ≤ 140737488351232) :
    Calls Try.prog 8 #[.slice a0 len0 cap0] w fun e w' => e = .returned (.bool true) ∧ Below w.heap.size w w' := by
  obtain ⟨l0, rfl, hr0, hm0, hw0, hc0⟩ := ReadsInt.ofRowC w0
  exact pa_walk _ _ l0 w (Kd.C_of_reads (d := (0 : Int)) (h1 := fun _ => rfl) hr0)
end Go.Proofs.Ytiialjmpfeopjaa.PaV
