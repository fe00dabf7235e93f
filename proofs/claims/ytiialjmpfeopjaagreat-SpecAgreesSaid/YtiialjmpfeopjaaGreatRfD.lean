/- The law's same, walked: plain lemmas; no condition. -/
import Derived.Test.YtiialjmpfeopjaaGreatSm1
import Derived.Deep.QuietTactic
namespace Go.Proofs.YtiialjmpfeopjaaGreat.Sp
open Go.RowKit Go.Sort Go.Proofs.YtiialjmpfeopjaaGreatW.PrintWords Go.Proofs.YtiialjmpfeopjaaGreatW.PrintLast Go.Proofs.YtiialjmpfeopjaaGreatW.PrintMore
set_option linter.unusedVariables false
set_option linter.unusedSimpArgs false
set_option maxHeartbeats 8000000
set_option maxRecDepth 100000
theorem same_at (a b : List Int) (A A' : Option Addr) (c c' : Nat) (w : World) (ha : Rd w A a) (hb : Rd w A' b) :
    Calls Tryz.prog 16 #[.slice A a.length c, .slice A' b.length c'] w fun e w' => e = .returned (.bool (decide (a = b))) ∧ ∃ q, w' = w.drewN q := by
  have hmx := ha.max
  by_cases hlen : a.length = b.length
  · have HA := Aside0.mk ha
    have HB := Aside0.mk hb
    have hne : ((a.length : Int) != (b.length : Int)) = false := by simp [hlen]
    clear ha hb
    have HL := Aside0.mk hlen
    clear hlen
    go_enter Tryz.func16, Tryz.ntmps16
    go_wp2
    go_loopg [5] a.length (fun gg v5 wr => ∃ kk q : Nat, kk ≤ a.length ∧ a.length - kk ≤ gg ∧ v5 = .int .i64 kk ∧ wr = w.drewN q ∧ Aside0 (∀ j : Nat, j < kk → a.getD j 0 = b.getD j 0))
    case atStart => exact ⟨0, 0, Nat.zero_le _, by omega, rfl, rfl, ⟨fun j hj => absurd hj (Nat.not_lt_zero _)⟩⟩
    case round =>
      obtain ⟨kk, q, hkk, hg, rfl, rfl, HE⟩ := hrel
      have hl := HL.out
      by_cases hlt : kk < a.length
      · obtain ⟨ad, rfl, hc⟩ := HA.out.at kk hlt
        obtain ⟨ad', rfl, hc'⟩ := HB.out.at kk (by omega)
        have hltb : kk < b.length := by omega
        obtain ⟨x, hx⟩ : ∃ x, x = a.getD kk 0 := ⟨_, rfl⟩
        obtain ⟨y, hy⟩ : ∃ y, y = b.getD kk 0 := ⟨_, rfl⟩
        rw [← hx] at hc
        rw [← hy] at hc'
        have HX := Aside0.mk hx
        have HY := Aside0.mk hy
        clear hx hy hl
        by_cases hxy : x = y
        · have hf : (x != y) = false := by simp [hxy]
          have HXY := Aside0.mk hxy
          clear hxy
          go_wp2
          go_quiet (fail)
          go_wp2
          go_roundg (a.length - (kk + 1))
          case measure => omega
          case rel =>
            refine ⟨kk + 1, _, by omega, by omega, by go_num, rfl, ⟨fun j hj => ?_⟩⟩
            by_cases e : j = kk
            · subst e
              rw [← HX.out, ← HY.out]; exact HXY.out
            · exact HE.out j (by omega)
        · have hf : (x != y) = true := by simp [hxy]
          have HXY := Aside0.mk hxy
          clear hxy
          go_wp2
          go_quiet (fail)
          go_wp2
          go_ret
          have : decide (a = b) = false := by
            apply decide_eq_false
            intro e
            subst e
            exact HXY.out (HX.out.trans HY.out.symm)
          rw [this]
          exact ⟨rfl, q + nq, World.drewN_drewN _ _ _⟩
      · have : kk = a.length := by omega
        subst this
        go_wp2
        go_ret
        have : decide (a = b) = true := by
          apply decide_eq_true
          apply List.ext_getElem hl
          intro j h1 h2
          have := HE.out j h1
          rw [List.getD_eq_getElem?_getD, List.getD_eq_getElem?_getD, List.getElem?_eq_getElem h1, List.getElem?_eq_getElem h2] at this
          exact this
        rw [this]
        exact ⟨rfl, q, rfl⟩
  · have hne : ((a.length : Int) != (b.length : Int)) = true := by simp; omega
    have hf : decide (a = b) = false := decide_eq_false (fun e => hlen (by rw [e]))
    rw [hf]
    clear ha hb
    go_enter Tryz.func16, Tryz.ntmps16
    go_wp2
    go_ret
    exact ⟨rfl, 0, rfl⟩
end Go.Proofs.YtiialjmpfeopjaaGreat.Sp
