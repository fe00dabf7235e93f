/- The walk of HazardNothing: plain lemmas; no condition. -/
import Derived.Test.YtgdadefobhfkcaaHz13
namespace Go.Proofs.Ytgdadefobhfkcaa.Hz
open Go.RowKit Go.Proofs.YtgdadefobhfkcaaW.PrintWords Go.Proofs.YtgdadefobhfkcaaW.PrintLast Go.Proofs.YtgdadefobhfkcaaW.PrintMore
set_option linter.unusedVariables false
set_option linter.unusedSimpArgs false
set_option maxHeartbeats 8000000
set_option maxRecDepth 100000
def zeroM : HM := ⟨0, [], []⟩
theorem bad_zero (t : Int) : bad zeroM t = true := by
  unfold bad zeroM
  by_cases h : t < 0
  · simp [h]
  · simp [h]; omega
theorem deed_zero (d t k a : Int) : deed zeroM d t k a = (zeroM, [], nilErr d) := by
  unfold deed nilErr
  by_cases h0 : d = 0
  · subst h0; simp [inD, bad_zero]
  · rw [if_neg h0]
    by_cases h1 : d = 1
    · subst h1; simp [outD, bad_zero]
    · rw [if_neg h1]
      by_cases h2 : d = 2
      · subst h2; simp [holdD, bad_zero]
      · rw [if_neg h2]
        by_cases h3 : d = 3
        · subst h3; simp [bornD, bad_zero]
        · rw [if_neg h3]
          by_cases h4 : d = 4
          · subst h4; simp [retireD, bad_zero]
          · rw [if_neg h4]
            by_cases h5 : d = 5
            · subst h5; rfl
            · rw [if_neg h5, if_neg (by omega)]
theorem nothing_walk (d t k a : Int) (w : World) : Calls Try.prog 8 #[.agg #[.int .i64 d, .int .i64 t, .int .i64 k, .int .i64 a]] w fun e w' => e = .returned (.bool true) ∧ Below w.heap.size w w' := by
  have n1 := heap_alloc_new w (.cells #[.int .i64 d, .int .i64 t, .int .i64 k, .int .i64 a] 33 (0, 0))
  have b1 := (Below.refl w.heap.size w).alloc (Nat.le_refl _) (.cells #[.int .i64 d, .int .i64 t, .int .i64 k, .int .i64 a] 33 (0, 0))
  have s1 := alloc_size w (.cells #[.int .i64 d, .int .i64 t, .int .i64 k, .int .i64 a] 33 (0, 0))
  have hcase : (0 ≤ d ∧ d ≤ 4 ∧ nilErr d = 1) ∨ d < 0 ∨ 4 < d := by unfold nilErr; by_cases h : 0 ≤ d ∧ d ≤ 4 <;> simp [h] <;> omega
  have HC := Aside0.mk hcase
  have HZ := Aside0.mk (deed_zero d t k a)
  have N1 := Aside0.mk n1
  have B1 := Aside0.mk b1
  have S1 := Aside0.mk s1
  clear n1 b1 s1 hcase
  go_enter Try.func8, Try.ntmps8
  go_wp2
  have n2 := heap_alloc_new (w.alloc (.cells #[.int .i64 d, .int .i64 t, .int .i64 k, .int .i64 a] 33 (0, 0))) (.cells #[.slice none 0 0, .slice none 0 0] 53 (0, 0))
  have b2 := B1.out.alloc (by have := S1.out; omega) (.cells #[.slice none 0 0, .slice none 0 0] 53 (0, 0))
  have o2 := (alloc_old (w.alloc (.cells #[.int .i64 d, .int .i64 t, .int .i64 k, .int .i64 a] 33 (0, 0))) (.cells #[.slice none 0 0, .slice none 0 0] 53 (0, 0)) w.heap.size (by have := S1.out; omega)).trans N1.out
  rw [S1.out] at n2
  generalize (w.alloc (.cells #[.int .i64 d, .int .i64 t, .int .i64 k, .int .i64 a] 33 (0, 0))).alloc (.cells #[.slice none 0 0, .slice none 0 0] 53 (0, 0)) = w2 at *
  have M2 : Aside0 (Man (w.heap.size + 1) w2 (w.heap.size + 1) none (.slice none 0 0) zeroM) := ⟨⟨rfl, by decide, Nat.le_refl _, n2, fun _ => rfl, fun a ha => absurd ha (by simp), ⟨rfl, .inl ⟨rfl, rfl⟩⟩⟩⟩
  have B2 := Aside0.mk b2
  have O2 := Aside0.mk o2
  clear n2 b2 o2 N1 B1 S1
  go_loopg [5, 6, 7, 8] 2 (fun gg v5 v6 v7 v8 wr => ∃ (kk : Nat) (wvk : Value), kk ≤ 2 ∧ 2 - kk ≤ gg ∧ v5 = .int .i64 kk ∧ Aside0 (Man (w.heap.size + 1) wr (w.heap.size + 1) none wvk zeroM) ∧ Aside0 (Below w.heap.size w wr) ∧ Aside0 (wr.heap[w.heap.size]? = some (.cells #[.int .i64 d, .int .i64 t, .int .i64 k, .int .i64 a] 33 (0, 0))))
  case atStart => exact ⟨0, _, by omega, by omega, rfl, M2, B2, O2⟩
  case round =>
    clear M2 B2 O2
    obtain ⟨kk, wvk, hkk, hgg, rfl, M2, B2, O2⟩ := hrel
    have c0 := Go.Lib.cell_of_heap O2.out 0
    have c1 := Go.Lib.cell_of_heap O2.out 1
    have c2 := Go.Lib.cell_of_heap O2.out 2
    have c3 := Go.Lib.cell_of_heap O2.out 3
    simp only [List.getElem?_toArray, List.getElem?_cons_zero, List.getElem?_cons_succ] at c0 c1 c2 c3
    obtain rfl | rfl | rfl : kk = 0 ∨ kk = 1 ∨ kk = 2 := by omega
    · have hdn := fun W => done_nil W d t k a
      have key : ∀ er : Int, nilErr d = er → (er = 1 ∨ d < 0 ∨ 4 < d) → True := fun _ _ _ => trivial
      clear key
      obtain ⟨h0, h4, he⟩ | h0 | h4 := HC.out
      all_goals
        first | rw [he] at hdn | skip
        have HDN := Aside0.mk hdn
        clear hdn
        go_wp2_with (first
          | (go_at_call 11; refine ((HDN.out) _).mono ?_; rintro e w3 ⟨rfl, hb⟩; have M3 := Aside0.mk (M2.out.grow hb); have B3 := Aside0.mk (B2.out.trans (hb.mono B2.out.size)); have O3 := Aside0.mk ((hb.block w.heap.size (blk_lt O2.out)).trans O2.out); have d0 : w3.cell? ⟨w.heap.size, 0, none⟩ = some (.int .i64 d) := (hb.cell (p := ⟨w.heap.size, 0, none⟩) (blk_lt O2.out)).trans c0; clear hb)
          | (go_at_call 13; refine (waiting_nil _).mono ?_; rintro e w' ⟨rfl, hw⟩; rw [hw]; clear hw)
          | (go_at_call 24; refine (rest_nil _).mono ?_; rintro e w' ⟨rfl, hw⟩; rw [hw]; clear hw)
          | (go_at_call 23; refine (copy_nil _).mono ?_; rintro e w' ⟨rfl, hw⟩; rw [hw]; clear hw))
        go_roundg 1
        case measure => omega
        case rel => exact ⟨1, _, by omega, by omega, by go_num, M3, B3, O3⟩
    · have hBs : w.heap.size + 1 ≤ wr.heap.size := blk_lt O2.out
      have hdn := done_calls M2.out hBs (by decide) d t k a
      rw [HZ.out] at hdn
      obtain ⟨h0, h4, he⟩ | h0 | h4 := HC.out
      all_goals
        first | rw [he] at hdn | skip
        have HDN := Aside0.mk hdn
        clear hdn
        go_wp2_with (first
          | (go_at_call 11; refine (HDN.out).mono ?_; rintro e w3 ⟨v3, rfl, hr, wv3, hm, hk, hb, _⟩; obtain ⟨A3, c3_, rfl⟩ := Kd.R_slice hr; have M3 := Aside0.mk hm; have B3 := Aside0.mk (B2.out.trans (hb.mono (Nat.le_succ _))); have hO3 := (hb.block w.heap.size (Nat.lt_succ_self _)).trans O2.out; have O3 := Aside0.mk hO3; have d0 : w3.cell? ⟨w.heap.size, 0, none⟩ = some (.int .i64 d) := (by rw [Go.Lib.cell_of_heap hO3]; rfl); clear hr hm hk hb hO3)
          | (go_at_call 13; refine (waiting_calls M3.out (by decide)).mono ?_; rintro e w4 ⟨v4, rfl, hr, hb⟩; obtain ⟨A4, c4_, rfl⟩ := Kd.R_slice hr; have M4 := Aside0.mk (M3.out.grow hb); have B4 := Aside0.mk (B3.out.trans (hb.mono B3.out.size)); have O4 := Aside0.mk ((hb.block w.heap.size (blk_lt O3.out)).trans O3.out); clear hr hb)
          | (go_at_call 24; refine (rest_as M4.out (blk_lt O4.out) (by decide) (show restD zeroM = (zeroM, [], 0) from rfl)).mono ?_; rintro e w5 ⟨v5, rfl, hr, wv5, hm, hk, hb, _⟩; obtain ⟨A5, c5_, rfl⟩ := Kd.R_slice hr; have M5 := Aside0.mk hm; have B5 := Aside0.mk (B4.out.trans (hb.mono (Nat.le_succ _))); have O5 := Aside0.mk ((hb.block w.heap.size (Nat.lt_succ_self _)).trans O4.out); clear hr hm hk hb)
          | (go_at_call 23; refine (copy_zero M5.out).mono ?_; rintro e w' ⟨rfl, hw⟩; rw [hw]; clear hw))
        go_roundg 0
        case measure => omega
        case rel => exact ⟨2, _, by omega, by omega, by go_num, M5, B5, O5⟩
    · go_wp2_with (go_at_call 9; refine (sane_calls _).mono ?_; rintro e w5 ⟨rfl, hb⟩; have B5 := Aside0.mk (B2.out.trans (hb.mono B2.out.size)); clear hb)
      go_ret
      exact ⟨rfl, B5.out⟩
theorem nothing_row (d t k a : Int) (w : World) (_ : (Lit.int .i64 d).wf = true) (_ : (Lit.int .i64 t).wf = true) (_ : (Lit.int .i64 k).wf = true) (_ : (Lit.int .i64 a).wf = true) :
    Calls Try.prog 8 #[.agg #[.int .i64 d, .int .i64 t, .int .i64 k, .int .i64 a]] w fun e w' => e = .returned (.bool true) ∧ Below w.heap.size w w' := nothing_walk d t k a w
end Go.Proofs.Ytgdadefobhfkcaa.Hz
