/- Lists of numbers looked through, and the function values of try: plain lemmas; no condition. -/
import Derived.Test.YtcfodmnpmjkpbaaE2
import Derived.Deep.QuietTactic
import Derived.BigQuiet
namespace Go.Proofs.Ytcfodmnpmjkpbaa.Ep
open Go.RowKit Go.Proofs.YtcfodmnpmjkpbaaW.PrintWords Go.Proofs.YtcfodmnpmjkpbaaW.PrintLast Go.Proofs.YtcfodmnpmjkpbaaW.PrintMore
set_option linter.unusedVariables false
set_option linter.unusedSimpArgs false
set_option maxHeartbeats 8000000
set_option maxRecDepth 100000
def ReadsI (w : World) (A : Option Addr) (l : List Int) : Prop := ∀ j, j < l.length → ∃ ad, A = some ad ∧ w.cell? (ad.add j) = some (.int .i64 (l.getD j 0))
theorem index_calls (A : Option Addr) (c : Nat) (l : List Int) (x : Int) (w : World) (hr : ReadsI w A l) (hl : l.length ≤ 1000000) :
    Calls Try.prog 51 #[.slice A l.length c, .int .i64 x] w fun e w' => ∃ r : Int, (e = .returned (.int .i64 r) ∧ w' = w) ∧ decide (0 ≤ r) = l.contains x := by
  have HR := Aside0.mk hr
  clear hr
  go_enter Try.func51, Try.ntmps51
  go_wp2
  go_loopg [5, 8] l.length (fun gg _ s8 wr => ∃ kk : Nat, kk ≤ l.length ∧ l.length - kk ≤ gg ∧ s8 = .int .i64 kk ∧ w = wr ∧ Aside0 (∀ j : Nat, j < kk → (x == l.getD j 0) = false))
  case atStart => exact ⟨0, Nat.zero_le _, by omega, rfl, rfl, ⟨fun j hj => absurd hj (Nat.not_lt_zero _)⟩⟩
  case round =>
    obtain ⟨kk, hkk, hg, rfl, rfl, B⟩ := hrel
    by_cases hlt : kk < l.length
    · obtain ⟨ad, rfl, hc⟩ := HR.out kk hlt
      obtain ⟨y, hy⟩ : ∃ y, y = l.getD kk 0 := ⟨_, rfl⟩
      have HY := Aside0.mk hy
      rw [← hy] at hc
      clear hy
      cases hq : (x == y) with
      | true =>
        go_wp2
        go_ret
        refine ⟨_, ⟨rfl, rfl⟩, ?_⟩
        have : l.contains x = true := by
          rw [List.contains_iff_exists_mem_beq]
          refine ⟨y, ?_, hq⟩
          rw [HY.out]
          simp [hlt]
        rw [this]
        simp
      | false =>
        go_wp2
        go_roundg (l.length - (kk + 1))
        case measure => omega
        case rel =>
          refine ⟨kk + 1, by omega, by omega, by go_num, rfl, ⟨fun j hj => ?_⟩⟩
          by_cases e : j = kk
          · subst e
            rw [← HY.out]; exact hq
          · exact B.out j (by omega)
    · have : kk = l.length := by omega
      subst this
      go_wp2
      go_ret
      refine ⟨-1, ⟨rfl, rfl⟩, ?_⟩
      have : l.contains x = false := by
        rw [Bool.eq_false_iff]
        intro h
        obtain ⟨y, hy, hxy⟩ := List.contains_iff_exists_mem_beq.1 h
        obtain ⟨j, hj, rfl⟩ := List.mem_iff_getElem.1 hy
        have := B.out j hj
        simp [hj] at this hxy
        exact this hxy
      rw [this]
      rfl
theorem contains_calls (A : Option Addr) (c : Nat) (l : List Int) (x : Int) (w : World) (hr : ReadsI w A l) (hl : l.length ≤ 1000000) :
    Calls Try.prog 39 #[.slice A l.length c, .int .i64 x] w fun e w' => e = .returned (.bool (l.contains x)) ∧ w' = w := by
  have hcon := index_calls A c l x w hr hl
  clear hr
  generalize l.contains x = b at hcon ⊢
  go_enter Try.func39, Try.ntmps39
  go_wp2_with (go_at_call 51; refine hcon.mono ?_; rintro e w' ⟨r, ⟨rfl, rfl⟩, hr⟩)
  go_ret
  exact ⟨by rw [← hr]; rfl, rfl⟩
theorem reads_R {W : World} {base : Nat} {ok : Nat → Prop} {A : Option Addr} {n c : Nat} {xs : List Int} (h : Kd.R (Kd.int .i64) 3 W base ok (.slice A n c) xs) : ReadsI W A xs := by
  intro j hj
  obtain ⟨h1, h2, h3⟩ := Kd.R_reads' h
  obtain ⟨ad, e, hc⟩ := Kd.at_int h3 (j : Int) (by omega) (by omega)
  refine ⟨ad, e, ?_⟩
  simpa [rd] using hc
/-- A thread that is inside, and behind. -/
def behind (ep x : Int) : Bool := (x != -1) && (x != ep)
theorem behind_calls (w : World) (g Bm : Nat) (ep : Int) (hb : w.cell? ⟨Bm, 0, none⟩ = some (.pointer (some ⟨g, 0, none⟩))) (h0 : w.cell? ⟨g, 0, none⟩ = some (.int .i64 ep)) (x : Int) :
    Calls Try.prog 52 #[.int .i64 x, .pointer (some ⟨Bm, 0, none⟩)] w fun e w' => e = .returned (.bool (behind ep x)) ∧ w' = w := by
  by_cases h1 : x = -1
  · have e : behind ep x = false := by simp [behind, h1]
    rw [e]
    have hd : (x != -1) = false := by simp [h1]
    clear e h1
    go_enter Try.func52, Try.ntmps52
    go_wp2
    go_ret
    exact ⟨rfl, rfl⟩
  · have hd : (x != -1) = true := by simpa using h1
    have e : behind ep x = (x != ep) := by simp [behind, hd]
    rw [e]
    clear e h1
    go_enter Try.func52, Try.ntmps52
    go_wp2
    go_ret
    exact ⟨rfl, rfl⟩
theorem indexB (g Bm : Nat) (ep : Int) (A : Option Addr) (c : Nat) (l : List Int) (w : World) (hr : ReadsI w A l) (hb : w.cell? ⟨Bm, 0, none⟩ = some (.pointer (some ⟨g, 0, none⟩))) (h0 : w.cell? ⟨g, 0, none⟩ = some (.int .i64 ep)) (hl : l.length ≤ 1000000) :
    Calls Try.prog 60 #[.slice A l.length c, .func (.func 52) #[] #[.pointer (some ⟨Bm, 0, none⟩)]] w fun e w' => ∃ r : Int, (e = .returned (.int .i64 r) ∧ w' = w) ∧ decide (0 ≤ r) = l.any (behind ep) := by
  have eg : ∀ args w, (callFunc 52 args).run Try.prog w = .ok (.enter 52 args) w := enters_of Try.func52 (by kernel_rfl) rfl
  have HR := Aside0.mk hr
  have HC := Aside0.mk (behind_calls w g Bm ep hb h0)
  clear hr hb h0
  go_enter Try.func60, Try.ntmps60
  go_wp2
  go_loopg [5, 8] l.length (fun gg _ s8 wr => ∃ kk : Nat, kk ≤ l.length ∧ l.length - kk ≤ gg ∧ s8 = .int .i64 kk ∧ w = wr ∧ Aside0 (∀ j : Nat, j < kk → behind ep (l.getD j 0) = false))
  case atStart => exact ⟨0, Nat.zero_le _, by omega, rfl, rfl, ⟨fun j hj => absurd hj (Nat.not_lt_zero _)⟩⟩
  case round =>
    obtain ⟨kk, hkk, hg, rfl, hw, B⟩ := hrel
    subst hw
    by_cases hlt : kk < l.length
    · obtain ⟨ad, rfl, hc⟩ := HR.out kk hlt
      obtain ⟨y, hy⟩ : ∃ y, y = l.getD kk 0 := ⟨_, rfl⟩
      have HY := Aside0.mk hy
      rw [← hy] at hc
      clear hy
      have hcall := HC.out y
      cases hq : behind ep y with
      | true =>
        rw [hq] at hcall
        go_wp2_with (go_at_fn 52; refine hcall.mono ?_; rintro e w' ⟨rfl, hw⟩; rw [hw]; clear hw)
        go_ret
        refine ⟨_, ⟨rfl, rfl⟩, ?_⟩
        have : l.any (behind ep) = true := by
          rw [List.any_eq_true]
          refine ⟨y, ?_, hq⟩
          rw [HY.out]
          simp [hlt]
        rw [this]
        simp
      | false =>
        rw [hq] at hcall
        go_wp2_with (go_at_fn 52; refine hcall.mono ?_; rintro e w' ⟨rfl, hw⟩; rw [hw]; clear hw)
        go_roundg (l.length - (kk + 1))
        case measure => omega
        case rel =>
          refine ⟨kk + 1, by omega, by omega, by go_num, rfl, ⟨fun j hj => ?_⟩⟩
          by_cases e : j = kk
          · subst e
            rw [← HY.out]; exact hq
          · exact B.out j (by omega)
    · have : kk = l.length := by omega
      subst this
      go_wp2
      go_ret
      refine ⟨-1, ⟨rfl, rfl⟩, ?_⟩
      have : l.any (behind ep) = false := by
        rw [List.any_eq_false]
        intro y hy
        obtain ⟨j, hj, rfl⟩ := List.mem_iff_getElem.1 hy
        have := B.out j hj
        simp [hj] at this
        simp [this]
      rw [this]
      rfl
theorem containsB (g Bm : Nat) (ep : Int) (A : Option Addr) (c : Nat) (l : List Int) (w : World) (hr : ReadsI w A l) (hb : w.cell? ⟨Bm, 0, none⟩ = some (.pointer (some ⟨g, 0, none⟩))) (h0 : w.cell? ⟨g, 0, none⟩ = some (.int .i64 ep)) (hl : l.length ≤ 1000000) :
    Calls Try.prog 53 #[.slice A l.length c, .func (.func 52) #[] #[.pointer (some ⟨Bm, 0, none⟩)]] w fun e w' => e = .returned (.bool (l.any (behind ep))) ∧ w' = w := by
  have hcon := indexB g Bm ep A c l w hr hb h0 hl
  clear hr hb h0
  generalize l.any (behind ep) = b at hcon ⊢
  go_enter Try.func53, Try.ntmps53
  go_wp2_with (go_at_call 60; refine hcon.mono ?_; rintro e w' ⟨r, ⟨rfl, rfl⟩, hr⟩)
  go_ret
  exact ⟨by rw [← hr]; rfl, rfl⟩
theorem reads_own {B : Nat} {w : World} {A : Option Addr} {n c : Nat} {l : List Int} (ho : w.ownsRow B 3 1 (.slice A n c) l.length (ints l)) : ReadsI w A l := by
  intro j hj
  obtain ⟨b, cap, cur, e, _, _, hc, _⟩ := own_int ho j hj
  injection e with e1 _ e2
  exact ⟨_, e1, by rw [add_plain]; exact hc⟩
end Go.Proofs.Ytcfodmnpmjkpbaa.Ep
