/- Equal lists, a list that has a number, the laws' check awake, and EpochBounds: plain lemmas; no condition. -/
import Derived.Test.YtcfodmnpmjkpbaaE10
namespace Go.Proofs.Ytcfodmnpmjkpbaa.Ep
open Go.RowKit Go.Proofs.YtcfodmnpmjkpbaaW.PrintWords Go.Proofs.YtcfodmnpmjkpbaaW.PrintLast Go.Proofs.YtcfodmnpmjkpbaaW.PrintMore
set_option linter.unusedVariables false
set_option linter.unusedSimpArgs false
set_option maxHeartbeats 8000000
set_option maxRecDepth 100000
theorem same_calls (A A' : Option Addr) (c c' : Nat) (a b : List Int) (w : World) (ha : ReadsI w A a) (hb : ReadsI w A' b) (hla : a.length ≤ 1000000) :
    Calls Try.prog 18 #[.slice A a.length c, .slice A' b.length c'] w fun e w' => e = .returned (.bool (decide (a = b))) ∧ ∃ q, w' = w.drewN q := by
  by_cases hlen : a.length = b.length
  · have HA := Aside0.mk ha
    have HB := Aside0.mk hb
    have hne : ((a.length : Int) != (b.length : Int)) = false := by simp [hlen]
    clear ha hb
    have HL := Aside0.mk hlen
    clear hlen
    go_enter Try.func18, Try.ntmps18
    go_wp2
    go_loopg [5] a.length (fun gg v5 wr => ∃ kk q : Nat, kk ≤ a.length ∧ a.length - kk ≤ gg ∧ v5 = .int .i64 kk ∧ wr = w.drewN q ∧ Aside0 (∀ j : Nat, j < kk → a.getD j 0 = b.getD j 0))
    case atStart => exact ⟨0, 0, Nat.zero_le _, by omega, rfl, rfl, ⟨fun j hj => absurd hj (Nat.not_lt_zero _)⟩⟩
    case round =>
      obtain ⟨kk, q, hkk, hg, rfl, rfl, HE⟩ := hrel
      have hl := HL.out
      by_cases hlt : kk < a.length
      · obtain ⟨ad, rfl, hc⟩ := HA.out kk hlt
        obtain ⟨ad', rfl, hc'⟩ := HB.out kk (by omega)
        have hltb : kk < b.length := by omega
        obtain ⟨x, hx⟩ : ∃ x, x = a.getD kk 0 := ⟨_, rfl⟩
        obtain ⟨y, hy⟩ : ∃ y, y = b.getD kk 0 := ⟨_, rfl⟩
        rw [← hx] at hc
        rw [← hy] at hc'
        have HX := Aside0.mk hx
        have HY := Aside0.mk hy
        clear hx hy hl
        by_cases hxy : x = y
        · have hf : (x != y) = false := by simp [hxy]
          have HXY := Aside0.mk hxy
          clear hxy
          go_wp2
          go_quiet (fail)
          go_wp2
          go_roundg (a.length - (kk + 1))
          case measure => omega
          case rel =>
            refine ⟨kk + 1, _, by omega, by omega, by go_num, rfl, ⟨fun j hj => ?_⟩⟩
            by_cases e : j = kk
            · subst e
              rw [← HX.out, ← HY.out]; exact HXY.out
            · exact HE.out j (by omega)
        · have hf : (x != y) = true := by simp [hxy]
          have HXY := Aside0.mk hxy
          clear hxy
          go_wp2
          go_quiet (fail)
          go_wp2
          go_ret
          have : decide (a = b) = false := by
            apply decide_eq_false
            intro e
            exact HXY.out (by rw [HX.out, HY.out, e])
          rw [this]
          exact ⟨rfl, _, World.drewN_drewN _ _ _⟩
      · have hkk2 : kk = a.length := by omega
        subst hkk2
        clear hl
        go_wp2
        go_ret
        have : decide (a = b) = true := by
          apply decide_eq_true
          apply List.ext_getElem HL.out
          intro j h1 h2
          have := HE.out j h1
          simpa [h1, h2] using this
        rw [this]
        exact ⟨rfl, _, rfl⟩
  · have e : decide (a = b) = false := decide_eq_false (fun h => hlen (by rw [h]))
    rw [e]
    have hne : ((a.length : Int) != (b.length : Int)) = true := by simp; omega
    clear ha hb hlen e
    go_enter Try.func18, Try.ntmps18
    go_wp2
    go_ret
    exact ⟨rfl, 0, rfl⟩
theorem hasL_calls (A : Option Addr) (c : Nat) (l : List Int) (x : Int) (w : World) (hr : ReadsI w A l) (hl : l.length ≤ 1000000) :
    Calls Try.prog 25 #[.slice A l.length c, .int .i64 x] w fun e w' => e = .returned (.bool (l.contains x)) ∧ w' = w := by
  have HR := Aside0.mk hr
  clear hr
  go_enter Try.func25, Try.ntmps25
  go_wp2
  go_loopg [5] l.length (fun gg s5 wr => ∃ kk : Nat, kk ≤ l.length ∧ l.length - kk ≤ gg ∧ s5 = .int .i64 kk ∧ w = wr ∧ Aside0 (∀ j : Nat, j < kk → (l.getD j 0 == x) = false))
  case atStart => exact ⟨0, Nat.zero_le _, by omega, rfl, rfl, ⟨fun j hj => absurd hj (Nat.not_lt_zero _)⟩⟩
  case round =>
    obtain ⟨kk, hkk, hg, rfl, rfl, B⟩ := hrel
    by_cases hlt : kk < l.length
    · obtain ⟨ad, rfl, hc⟩ := HR.out kk hlt
      obtain ⟨y, hy⟩ : ∃ y, y = l.getD kk 0 := ⟨_, rfl⟩
      have HY := Aside0.mk hy
      rw [← hy] at hc
      clear hy
      cases hq : (y == x) with
      | true =>
        go_wp2
        go_ret
        have : l.contains x = true := by
          rw [List.contains_iff_exists_mem_beq]
          have e := eq_of_beq hq
          refine ⟨y, ?_, by simp [e]⟩
          rw [HY.out]
          simp [hlt]
        rw [this]
        exact ⟨rfl, rfl⟩
      | false =>
        go_wp2
        go_roundg (l.length - (kk + 1))
        case measure => omega
        case rel =>
          refine ⟨kk + 1, by omega, by omega, by go_num, rfl, ⟨fun j hj => ?_⟩⟩
          by_cases e : j = kk
          · subst e
            rw [← HY.out]; exact hq
          · exact B.out j (by omega)
    · have : kk = l.length := by omega
      subst this
      go_wp2
      go_ret
      have : l.contains x = false := by
        rw [Bool.eq_false_iff]
        intro h
        obtain ⟨y, hy, hxy⟩ := List.contains_iff_exists_mem_beq.1 h
        obtain ⟨j, hj, rfl⟩ := List.mem_iff_getElem.1 hy
        have := B.out j hj
        have e := eq_of_beq hxy
        simp [hj, e] at this
      rw [this]
      exact ⟨rfl, rfl⟩

def a1 : EM := ⟨1, [-1], [(100, 0)]⟩
def a2 : EM := ⟨4, [-1], []⟩
theorem a1_is : retireD (newM 1) 0 100 = (a1, [], 0) := by kernel_rfl
theorem a2_is : restD a1 = (a2, [100], 0) := by kernel_rfl
theorem retire_as {B : Nat} {w : World} {g : Nat} {tv wv : Value} {m : EM} (hm : Man B w g tv wv m) (hB : B ≤ w.heap.size) (hl : m.ws.length ≤ 100000) (he0 : 0 ≤ m.ep) (he : m.ep ≤ 90000) {t a : Int} {r : EM × List Int × Int} (hr : retireD m t a = r) : Calls Try.prog 24 #[.pointer (some ⟨g, 0, none⟩), .int .i64 t, .int .i64 a] w (Told B w g tv wv r) := hr ▸ retire_told hm hB hl he0 he t a
theorem rest_as {B : Nat} {w : World} {g : Nat} {tv wv : Value} {m : EM} (hm : Man B w g tv wv m) (hB : B ≤ w.heap.size) (h0 : 0 < m.th.length) (hl : m.ws.length ≤ 100000) (he0 : 0 ≤ m.ep) (he : m.ep ≤ 90000) {r : EM × List Int × Int} (hr : restD m = r) :
    Calls Try.prog 27 #[.pointer (some ⟨g, 0, none⟩)] w fun e w' => ∃ v, e = .returned v ∧ Kd.R (Kd.int .i64) 3 w' w.heap.size (fun _ => True) v r.2.1 ∧ After B w g tv wv r.1 w' := by
  subst hr
  exact rest_calls hm hB h0 hl he0 he
theorem awake_calls (w : World) : Calls Try.prog 12 #[] w fun e w' => e = .returned (.bool true) ∧ Below w.heap.size w w' := by
  have hnew := new_calls w.heap.size 1 w (Nat.le_refl _) (by decide) (by decide)
  have HN := Aside0.mk hnew
  clear hnew
  go_enter Try.func12, Try.ntmps12
  go_wp2_with (first
    | (go_at_call 14; refine (HN.out).mono ?_; rintro e w1 ⟨g, tv, rfl, hm, hb, _⟩; have M1 := Aside0.mk hm; have B1 := Aside0.mk hb; clear hm hb HN)
    | (go_at_call 24; refine (retire_as M1.out B1.out.size (by decide) (by decide) (by decide) a1_is).mono ?_; rintro e w2 ⟨v2, rfl, hr, wv2, hm, hk, hb, hw⟩; obtain ⟨A2, c2, rfl⟩ := Kd.R_slice hr; have M2 := Aside0.mk hm; have B2 := Aside0.mk (B1.out.trans hb); clear hr hm hk hb hw M1)
    | (go_at_call 27; refine (rest_as M2.out B2.out.size (by decide) (by decide) (by decide) (by decide) a2_is).mono ?_; rintro e w3 ⟨v3, rfl, hr, wv3, hm, hk, hb, hw⟩; obtain ⟨A3, c3, rfl⟩ := Kd.R_slice hr; obtain ⟨ad, rfl, hcell⟩ := reads_R hr 0 (by decide); have M3 := Aside0.mk hm; have B3 := Aside0.mk (B2.out.trans hb); clear hr hm hk hb hw M2; simp only [List.getD_cons_zero] at hcell; have ha0 : ad.add 0 = ad := (by simp [Addr.add]); rw [ha0] at hcell; clear ha0)
    | (go_at_call 21; refine (epoch_calls M3.out (by decide)).mono ?_; rintro e w4 ⟨rfl, hw⟩; rw [hw]; clear hw))
  go_ret
  exact ⟨rfl, B3.out⟩
theorem bound_calls (t : Int) (w : World) : Calls Try.prog 13 #[.int .i64 t] w fun e w' => e = .returned (.tuple #[.int .i64 (if 1 ≤ t ∧ t ≤ 4 then -1 else 0), .int .i64 (if 1 ≤ t ∧ t ≤ 4 then 0 else 1)]) ∧ w' = w := by
  by_cases h : 1 ≤ t ∧ t ≤ 4
  · rw [if_pos h, if_pos h]
    obtain ⟨h1, h2⟩ := h
    go_enter Try.func13, Try.ntmps13
    go_wp2
    go_ret2
    exact ⟨rfl, rfl⟩
  · rw [if_neg h, if_neg h]
    have h5 : t < 1 ∨ 4 < t := by omega
    clear h
    rcases h5 with h5 | h5
    all_goals
      go_enter Try.func13, Try.ntmps13
      go_wp2
      go_ret2
      exact ⟨rfl, rfl⟩
theorem bounds_row (t : Int) (w : World) (_ht : (Lit.int .i64 t).wf = true) : Calls Try.prog 3 #[.int .i64 t] w fun e w' => e = .returned (.bool true) ∧ Below w.heap.size w w' := by
  have hb0 := fun W => bound_calls t W
  have hcase : (1 ≤ t ∧ t ≤ 4) ∨ t < 1 ∨ 4 < t := by omega
  rcases hcase with h | h | h
  · rw [if_pos h, if_pos h] at hb0
    obtain ⟨h1, h2⟩ := h
    have HB0 := Aside0.mk hb0
    clear hb0
    go_enter Try.func3, Try.ntmps3
    go_wp2_with (first
      | (go_at_call 12; refine (awake_calls _).mono ?_; rintro e w1 ⟨rfl, hb⟩; have B1 := Aside0.mk hb; clear hb)
      | (go_at_call 13; refine ((HB0.out) _).mono ?_; rintro e w2 ⟨rfl, hw⟩; rw [hw]; clear hw))
    go_ret
    exact ⟨rfl, B1.out⟩
  all_goals
    rw [if_neg (by omega), if_neg (by omega)] at hb0
    have HB0 := Aside0.mk hb0
    clear hb0
    go_enter Try.func3, Try.ntmps3
    go_wp2_with (first
      | (go_at_call 12; refine (awake_calls _).mono ?_; rintro e w1 ⟨rfl, hb⟩; have B1 := Aside0.mk hb; clear hb)
      | (go_at_call 13; refine ((HB0.out) _).mono ?_; rintro e w2 ⟨rfl, hw⟩; rw [hw]; clear hw))
    go_ret
    exact ⟨rfl, B1.out⟩
end Go.Proofs.Ytcfodmnpmjkpbaa.Ep
