/- The reference's manager: told: plain lemmas; no condition. -/
import Derived.Test.YtgdadefobhfkcaaHyL5
namespace Go.Proofs.Ytgdadefobhfkcaa.Hy
open Go.RowKit Go.Proofs.YtgdadefobhfkcaaW.PrintWords Go.Proofs.YtgdadefobhfkcaaW.PrintLast Go.Proofs.YtgdadefobhfkcaaW.PrintMore
set_option linter.unusedVariables false
set_option linter.unusedSimpArgs false
set_option maxHeartbeats 8000000
set_option maxRecDepth 100000
section
variable {B : Nat} {w : World} {g : Nat} {hv iv : Value} {ps : List (Nat × Nat)} {m : HM}
theorem ToldR.up {w0 : World} {r : HM × List Int × Int} {e : Ending} {w' : World} (hb : Below w0.heap.size w0 w) (hB : B ≤ w0.heap.size) (h : ToldR B w g hv iv ps r e w') : ToldR B w0 g hv iv ps r e w' := by
  obtain ⟨v, he, hr, ha⟩ := h
  exact ⟨v, he, Kd.R_lower hr hb.size, afterR_then (Kept.of_below hb _) (hb.mono hB) (fun k hk => .inl hk) ha⟩
set_option maxHeartbeats 8000000 in
set_option maxRecDepth 100000 in
theorem told_calls (hm : Ref B w g hv iv ps m) (hn : 0 < m.n) (hB : B ≤ w.heap.size) (hl : m.ws.length ≤ 99999) (d t k a : Int) :
    Calls Try.prog 20 #[.pointer (some ⟨g, 0, none⟩), .agg #[.int .i64 d, .int .i64 t, .int .i64 k, .int .i64 a]] w (ToldR B w g hv iv ps (deed m d t k a)) := by
  have hbe := (Below.refl w.heap.size w).alloc (Nat.le_refl _) (.cells #[.int .i64 d, .int .i64 t, .int .i64 k, .int .i64 a] 33 (0, 0))
  have hm2 := hm.grow hbe
  have hB2 : B ≤ (w.alloc (.cells #[.int .i64 d, .int .i64 t, .int .i64 k, .int .i64 a] 33 (0, 0))).heap.size := Nat.le_trans hB hbe.size
  have HBE := Aside0.mk hbe
  unfold deed
  by_cases h0 : d = 0
  · subst h0
    have hc := Aside0.mk (rin_calls hm2 hB2 t)
    clear hm hm2 hbe
    rw [if_pos rfl]
    go_enter Try.func20, Try.ntmps20
    go_wp2_with (go_at_call 31; refine (hc.out).mono ?_; rintro e w' ht; have HT := Aside0.mk (ToldR.up HBE.out hB ht); obtain ⟨v, rfl, _, _⟩ := ht)
    go_ret2
    exact HT.out
  · rw [if_neg h0]
    by_cases h1 : d = 1
    · subst h1
      rw [if_pos rfl]
      have hc := Aside0.mk (rout_calls hm2 hB2 t)
      clear hm hm2 hbe
      go_enter Try.func20, Try.ntmps20
      go_wp2_with (go_at_call 32; refine (hc.out).mono ?_; rintro e w' ht; have HT := Aside0.mk (ToldR.up HBE.out hB ht); obtain ⟨v, rfl, _, _⟩ := ht)
      go_ret2
      exact HT.out
    · rw [if_neg h1]
      by_cases h2 : d = 2
      · subst h2
        rw [if_pos rfl]
        have hc := Aside0.mk (rhold_calls hm2 hB2 t k a)
        clear hm hm2 hbe
        go_enter Try.func20, Try.ntmps20
        go_wp2_with (go_at_call 33; refine (hc.out).mono ?_; rintro e w' ht; have HT := Aside0.mk (ToldR.up HBE.out hB ht); obtain ⟨v, rfl, _, _⟩ := ht)
        go_ret2
        exact HT.out
      · rw [if_neg h2]
        by_cases h3 : d = 3
        · subst h3
          rw [if_pos rfl]
          have hc := Aside0.mk (rborn_calls hm2 a hn)
          have HT := Aside0.mk (ToldR.up hbe hB (toldR_same hm2 hB2 (if (bad m 0 || decide (a < 1)) = true then 1 else 0)))
          unfold bornD at hc ⊢
          generalize (if (bad m 0 || decide (a < 1)) = true then (1 : Int) else 0) = er at hc HT ⊢
          clear hm hm2 hbe
          go_enter Try.func20, Try.ntmps20
          go_wp2_with (go_at_call 34; refine (hc.out).mono ?_; rintro e w' ⟨rfl, rfl⟩)
          go_ret2
          exact HT.out
        · rw [if_neg h3]
          by_cases h4 : d = 4
          · subst h4
            rw [if_pos rfl]
            have hc := Aside0.mk (rretire_told hm2 hB2 hl t a)
            clear hm hm2 hbe
            go_enter Try.func20, Try.ntmps20
            go_wp2_with (go_at_call 35; refine (hc.out).mono ?_; rintro e w' ht; have HT := Aside0.mk (ToldR.up HBE.out hB ht); obtain ⟨v, rfl, _, _⟩ := ht)
            go_ret2
            exact HT.out
          · rw [if_neg h4]
            by_cases h5 : d = 5
            · subst h5
              rw [if_pos rfl]
              have hc := Aside0.mk (rrest_calls hm2 hB2 (by omega))
              unfold restD
              clear hm hm2 hbe
              go_enter Try.func20, Try.ntmps20
              go_wp2_with (go_at_call 36; refine (hc.out).mono ?_; rintro e w' ⟨v, rfl, hr, ha⟩; have HT := Aside0.mk (ToldR.up (r := ((restTo m m.n).1, (restTo m m.n).2, 0)) HBE.out hB ⟨v, rfl, hr, ha⟩); clear hr ha)
              go_ret2
              exact HT.out
            · rw [if_neg h5]
              have HT := Aside0.mk (ToldR.up hbe hB (toldR_same hm2 hB2 0))
              have f0 : (d == 0) = false := by simpa using h0
              have f1 : (d == 1) = false := by simpa using h1
              have f2 : (d == 2) = false := by simpa using h2
              have f3 : (d == 3) = false := by simpa using h3
              have f4 : (d == 4) = false := by simpa using h4
              have f5 : (d == 5) = false := by simpa using h5
              clear hm hm2 hbe h0 h1 h2 h3 h4 h5
              go_enter Try.func20, Try.ntmps20
              go_wp2
              go_ret2
              exact HT.out
end
end Go.Proofs.Ytgdadefobhfkcaa.Hy
