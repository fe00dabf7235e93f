/- litmus.Check, walked: plain lemmas; no condition. -/
import Derived.Test.YtgfbgbclpeihdaaLiB
namespace Go.Proofs.Ytgfbgbclpeihdaa.Li
open Go.RowKit Go.Proofs.YtgfbgbclpeihdaaW.PrintWords Go.Proofs.YtgfbgbclpeihdaaW.PrintLast Go.Proofs.YtgfbgbclpeihdaaW.PrintMore
set_option linter.unusedVariables false
set_option linter.unusedSimpArgs false
set_option maxHeartbeats 8000000
set_option maxRecDepth 100000
theorem check_calls (P : List (List LOp)) (A : Option Addr) (c : Nat) (w : World) (hp : PAt w A P) (hl : P.flatten.length ≤ 1000000) (hl2 : P.length ≤ 1000000) :
    Calls Try.prog 14 #[.agg #[.slice A P.length c]] w fun e w' => e = .returned (.int .i64 (checkL P)) ∧ Below w.heap.size w w' := by
  have n0 := heap_alloc_new w (.cells #[.slice A P.length c] 24 (0, 0))
  have k0 : (w.alloc (.cells #[.slice A P.length c] 24 (0, 0))).cell? ⟨w.heap.size, 0, none⟩ = some (.slice A P.length c) := (Go.Lib.cell_of_heap n0 0).trans rfl
  have B := Aside0.mk (al1 w (.cells #[.slice A P.length c] 24 (0, 0)))
  have HLIM := Aside0.mk (limits_calls P A c (w.alloc (.cells #[.slice A P.length c] 24 (0, 0))) (hp.below B.out) hl hl2)
  have HK := Aside0.mk (show ∀ w', Below (w.alloc (.cells #[.slice A P.length c] 24 (0, 0))).heap.size (w.alloc (.cells #[.slice A P.length c] 24 (0, 0))) w' → w'.cell? ⟨w.heap.size, 0, none⟩ = some (.slice A P.length c) from fun w' hb => (hb.cell (World.block_lt_of_cell? _ _ k0)).trans k0)
  have HP := Aside0.mk hp
  have HLF := Aside0.mk hl
  clear n0 hp hl
  obtain ⟨r, hr⟩ : ∃ r, r = checkL P := ⟨_, rfl⟩
  rw [← hr]
  unfold checkL at hr
  obtain ⟨lim, hlim⟩ : ∃ b, b = limL P := ⟨_, rfl⟩
  rw [← hlim] at HLIM hr
  have HLM := Aside0.mk hlim
  clear hlim
  cases lim with
  | false =>
    rw [if_pos rfl] at hr
    subst hr
    go_enter Try.func14, Try.ntmps14
    go_wp2_with (first | (go_at_call 31; refine HLIM.out.mono ?_; rintro e w2 ⟨rfl, hb⟩; have HB := Aside0.mk (btrans B.out hb); clear hb))
    go_ret
    exact ⟨rfl, HB.out⟩
  | true =>
    rw [if_neg (by decide)] at hr
    cases P with
    | nil =>
      rw [if_pos rfl] at hr
      subst hr
      go_enter Try.func14, Try.ntmps14
      go_wp2_with (first | (go_at_call 31; refine HLIM.out.mono ?_; rintro e w2 ⟨rfl, hb⟩; have k0 := HK.out w2 hb; have HB := Aside0.mk (btrans B.out hb); clear hb))
      go_ret
      exact ⟨rfl, HB.out⟩
    | cons p0 P0 =>
      rw [if_neg (by simp)] at hr
      have hpos : 0 < (p0 :: P0).length := Nat.succ_pos _
      generalize p0 :: P0 = P at *
      have HR := Aside0.mk hr
      have hne : ((P.length : Int) == 0) = false := by simp; intro h; rw [h] at hpos; simp at hpos
      clear hr
      go_enter Try.func14, Try.ntmps14
      go_wp2_with (first | (go_at_call 31; refine HLIM.out.mono ?_; rintro e w2 ⟨rfl, hb⟩; have k0 := HK.out w2 hb; have HB := Aside0.mk (btrans B.out hb); clear hb))
      go_loopg [19] P.length (fun gg v19 wr => ∃ t : Nat, t ≤ P.length ∧ P.length - t ≤ gg ∧ v19 = .int .i64 t ∧ Aside0 ((P.take t).flatten.all okL = true) ∧ Aside0 (Below w.heap.size w wr))
      case atStart => exact ⟨0, by omega, by omega, rfl, ⟨rfl⟩, HB⟩
      case round =>
        clear HB k0
        obtain ⟨t, ht, hgg, rfl, HOK, HB⟩ := hrel
        by_cases hlt : t < P.length
        · obtain ⟨ad, B0, c0, rfl, hcell, hlc, hoa⟩ := HP.out t hlt
          replace hcell := (HB.out.cell (World.block_lt_of_cell? w _ hcell)).trans hcell
          have htl : (t : Int) < (P.length : Int) := by omega
          have HFN := Aside0.mk (flat_next hlt)
          have HFM := Aside0.mk (fun i => flat_mid hlt i 1000000 HLF.out)
          have HWH := Aside0.mk (show ∀ i (hi : i < (P[t]).length), okL (P[t])[i] = false → P.flatten.all okL = false from fun i hi hb => by
            rw [List.all_eq_false]
            exact ⟨(P[t])[i], List.mem_flatten.2 ⟨P[t], List.getElem_mem hlt, List.getElem_mem hi⟩, by rw [hb]; simp⟩)
          have hLl : (P[t]).length ≤ 1000000 := by have := HFM.out (P[t]).length; rw [List.take_length, List.length_append] at this; omega
          obtain ⟨L, hL⟩ : ∃ L, L = P[t] := ⟨_, rfl⟩
          obtain ⟨F, hF⟩ : ∃ F, F = (P.take t).flatten := ⟨_, rfl⟩
          rw [← hF] at HOK HFN
          rw [← hL] at HFN hLl
          have HWH := Aside0.mk (show ∀ i (hi : i < L.length), okL L[i] = false → P.flatten.all okL = false from by subst hL; exact HWH.out)
          replace hcell : wr.cell? (ad.add t) = some (.slice B0 L.length c0) := by rw [hL]; exact hcell
          have HOA := Aside0.mk (show OAt w B0 L by rw [hL]; exact hoa)
          clear hL hF hoa hlc HFM
          go_wp2
          go_loopg [25] L.length (fun gg v25 wr => ∃ i : Nat, i ≤ L.length ∧ L.length - i ≤ gg ∧ v25 = .int .i64 i ∧ Aside0 ((F ++ L.take i).all okL = true) ∧ Aside0 (Below w.heap.size w wr))
          case atStart => exact ⟨0, by omega, by omega, rfl, ⟨by simpa using HOK.out⟩, HB⟩
          case round =>
            clear HOK HB hcell
            obtain ⟨i, hi, hgi, rfl, HOK, HB⟩ := hrel
            by_cases hli : i < L.length
            · have hii : (i : Int) < (L.length : Int) := by omega
              obtain ⟨ad2, rfl, c0, c1, c2, c3, c4⟩ := HOA.out.below HB.out i hli
              rw [add_field ad2 (i * 5) 1 (by decide)] at c1
              rw [add_field ad2 (i * 5) 2 (by decide)] at c2
              rw [add_field ad2 (i * 5) 3 (by decide)] at c3
              rw [add_field ad2 (i * 5) 4 (by decide)] at c4
              have HT := Aside0.mk (take_next hli F)
              have HX := Aside0.mk (HWH.out i hli)
              generalize L[i] = x at *
              obtain ⟨k, l, v, u, o⟩ := x
              simp only at c0 c1 c2 c3 c4
              have h3 := heap_alloc_new wr (.cells #[.int .i64 k, .int .i64 l, .int .i64 v, .int .i64 u, .int .i64 o] 44 (0, 0))
              have k0 := (Go.Lib.cell_of_heap h3 0).trans rfl
              have k1 := (Go.Lib.cell_of_heap h3 1).trans rfl
              have k2 := (Go.Lib.cell_of_heap h3 2).trans rfl
              have k3 := (Go.Lib.cell_of_heap h3 3).trans rfl
              have k4 := (Go.Lib.cell_of_heap h3 4).trans rfl
              simp only [List.getElem?_toArray, List.getElem?_cons_succ, List.getElem?_cons_zero] at k0 k1 k2 k3 k4
              have HB := Aside0.mk (btrans HB.out (al1 wr (.cells #[.int .i64 k, .int .i64 l, .int .i64 v, .int .i64 u, .int .i64 o] 44 (0, 0))))
              clear h3
              by_cases hin : 0 ≤ k ∧ k ≤ 5 ∧ 0 ≤ o ∧ o ≤ 4
              · have HMAY := Aside0.mk (show ∀ w, Calls Try.prog 32 #[.int .i64 k, .int .i64 o] w fun e w' => e = .returned (.tuple #[.bool (mayL k o), .int .i64 0]) ∧ w' = w from fun w => by have := May_calls k o w; rw [if_pos hin] at this; exact this)
                clear hin
                obtain ⟨m, hm⟩ : ∃ m, m = mayL k o := ⟨_, rfl⟩
                rw [← hm] at HMAY
                have HM := Aside0.mk hm
                clear hm
                cases m with
                | false =>
                  have HBAD := Aside0.mk (show (if P.flatten.all okL = true then (0 : Int) else 1) = 1 from by rw [HX.out (by unfold okL; rw [← HM.out]; rfl)]; rfl)
                  clear HX
                  go_wp2_with (first | (go_at_call 32; refine (HMAY.out _).mono ?_; rintro e W4 ⟨rfl, hw⟩; rw [hw]; clear hw) | (go_at_call 33; refine (fits_calls ⟨k, l, v, u, o⟩ (wr.alloc (.cells #[.int .i64 k, .int .i64 l, .int .i64 v, .int .i64 u, .int .i64 o] 44 (0, 0)))).mono ?_; rintro e W4 ⟨rfl, hb⟩; rw [HFIT.out]; have HB := Aside0.mk (btrans HB.out hb); clear hb))
                  go_ret
                  exact ⟨by rw [HR.out, HBAD.out]; rfl, HB.out⟩
                | true =>
                  obtain ⟨f, hf⟩ : ∃ f, f = fitL ⟨k, l, v, u, o⟩ := ⟨_, rfl⟩
                  have HFIT := Aside0.mk hf.symm
                  clear hf
                  cases f with
                  | false =>
                    have HBAD := Aside0.mk (show (if P.flatten.all okL = true then (0 : Int) else 1) = 1 from by rw [HX.out (by unfold okL; rw [HFIT.out, Bool.and_false])]; rfl)
                    clear HX
                    go_wp2_with (first | (go_at_call 32; refine (HMAY.out _).mono ?_; rintro e W4 ⟨rfl, hw⟩; rw [hw]; clear hw) | (go_at_call 33; refine (fits_calls ⟨k, l, v, u, o⟩ (wr.alloc (.cells #[.int .i64 k, .int .i64 l, .int .i64 v, .int .i64 u, .int .i64 o] 44 (0, 0)))).mono ?_; rintro e W4 ⟨rfl, hb⟩; rw [HFIT.out]; have HB := Aside0.mk (btrans HB.out hb); clear hb))
                    go_ret
                    exact ⟨by rw [HR.out, HBAD.out]; rfl, HB.out⟩
                  | true =>
                    have HX := Aside0.mk (show okL ⟨k, l, v, u, o⟩ = true from by unfold okL; rw [HFIT.out, ← HM.out]; rfl)
                    go_wp2_with (first | (go_at_call 32; refine (HMAY.out _).mono ?_; rintro e W4 ⟨rfl, hw⟩; rw [hw]; clear hw) | (go_at_call 33; refine (fits_calls ⟨k, l, v, u, o⟩ (wr.alloc (.cells #[.int .i64 k, .int .i64 l, .int .i64 v, .int .i64 u, .int .i64 o] 44 (0, 0)))).mono ?_; rintro e W4 ⟨rfl, hb⟩; rw [HFIT.out]; have HB := Aside0.mk (btrans HB.out hb); clear hb))
                    go_roundg (L.length - (i + 1))
                    case measure => omega
                    case rel => exact ⟨i + 1, by omega, by omega, by go_num, ⟨by rw [HT.out, List.all_append, HOK.out]; simp [HX.out]⟩, HB⟩
              · have HMAY := Aside0.mk (show ∀ w, Calls Try.prog 32 #[.int .i64 k, .int .i64 o] w fun e w' => e = .returned (.tuple #[.bool (mayL k o), .int .i64 1]) ∧ w' = w from fun w => by have := May_calls k o w; rw [if_neg hin] at this; exact this)
                have HM := Aside0.mk (show mayL k o = false from by unfold mayL; simp only [Bool.and_eq_false_iff, decide_eq_false_iff_not]; omega)
                have HBAD := Aside0.mk (show (if P.flatten.all okL = true then (0 : Int) else 1) = 1 from by rw [HX.out (by unfold okL; rw [HM.out]; rfl)]; rfl)
                clear HX hin
                go_wp2_with (first | (go_at_call 32; refine (HMAY.out _).mono ?_; rintro e W4 ⟨rfl, hw⟩; rw [hw]; clear hw) | (go_at_call 33; refine (fits_calls ⟨k, l, v, u, o⟩ (wr.alloc (.cells #[.int .i64 k, .int .i64 l, .int .i64 v, .int .i64 u, .int .i64 o] 44 (0, 0)))).mono ?_; rintro e W4 ⟨rfl, hb⟩; rw [HFIT.out]; have HB := Aside0.mk (btrans HB.out hb); clear hb))
                go_ret
                exact ⟨by rw [HR.out, HBAD.out]; rfl, HB.out⟩
            · have hii : ¬ (i : Int) < (L.length : Int) := by omega
              have he : L.take i = L := List.take_of_length_le (by omega)
              rw [he, ← HFN.out] at HOK
              go_wp2
              go_roundg (P.length - (t + 1))
              case measure => omega
              case rel => exact ⟨t + 1, by omega, by omega, by go_num, HOK, HB⟩
        · have hii : ¬ (t : Int) < (P.length : Int) := by omega
          have he : P.take t = P := List.take_of_length_le (by omega)
          rw [he] at HOK
          go_wp2
          go_ret
          exact ⟨by rw [HR.out, if_pos HOK.out]; rfl, HB.out⟩
end Go.Proofs.Ytgfbgbclpeihdaa.Li
