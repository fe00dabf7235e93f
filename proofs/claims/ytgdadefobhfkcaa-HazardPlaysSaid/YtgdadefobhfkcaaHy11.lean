/- Equal lists, and the law's sane: plain lemmas; no condition. -/
import Derived.Test.YtgdadefobhfkcaaHy10
namespace Go.Proofs.Ytgdadefobhfkcaa.Hy
open Go.RowKit Go.Proofs.YtgdadefobhfkcaaW.PrintWords Go.Proofs.YtgdadefobhfkcaaW.PrintLast Go.Proofs.YtgdadefobhfkcaaW.PrintMore
set_option linter.unusedVariables false
set_option linter.unusedSimpArgs false

set_option maxHeartbeats 8000000 in
set_option maxRecDepth 100000 in
theorem intsEq (A A' : Option Addr) (c c' : Nat) (a b : List Int) (w : World) (ha : ReadsI w A a) (hb : ReadsI w A' b) (hla : a.length ≤ 1000000) :
    Calls Try.prog 16 #[.slice A a.length c, .slice A' b.length c'] w fun e w' => e = .returned (.bool (decide (a = b))) ∧ ∃ q, w' = w.drewN q := by
  by_cases hlen : a.length = b.length
  · have HA := Aside0.mk ha
    have HB := Aside0.mk hb
    have hne : ((a.length : Int) != (b.length : Int)) = false := by simp [hlen]
    clear ha hb
    have HL := Aside0.mk hlen
    clear hlen
    go_enter Try.func16, Try.ntmps16
    go_wp2
    go_loopg [5] a.length (fun gg v5 wr => ∃ kk q : Nat, kk ≤ a.length ∧ a.length - kk ≤ gg ∧ v5 = .int .i64 kk ∧ wr = w.drewN q ∧ Aside0 (∀ j : Nat, j < kk → a.getD j 0 = b.getD j 0))
    case atStart => exact ⟨0, 0, Nat.zero_le _, by omega, rfl, rfl, ⟨fun j hj => absurd hj (Nat.not_lt_zero _)⟩⟩
    case round =>
      obtain ⟨kk, q, hkk, hg, rfl, rfl, HE⟩ := hrel
      have hl := HL.out
      by_cases hlt : kk < a.length
      · obtain ⟨ad, rfl, hc⟩ := HA.out kk hlt
        obtain ⟨ad', rfl, hc'⟩ := HB.out kk (by omega)
        have hltb : kk < b.length := by omega
        obtain ⟨x, hx⟩ : ∃ x, x = a.getD kk 0 := ⟨_, rfl⟩
        obtain ⟨y, hy⟩ : ∃ y, y = b.getD kk 0 := ⟨_, rfl⟩
        rw [← hx] at hc
        rw [← hy] at hc'
        have HX := Aside0.mk hx
        have HY := Aside0.mk hy
        clear hx hy hl
        by_cases hxy : x = y
        · have hf : (x != y) = false := by simp [hxy]
          have HXY := Aside0.mk hxy
          clear hxy
          go_wp2
          go_quiet (fail)
          go_wp2
          go_roundg (a.length - (kk + 1))
          case measure => omega
          case rel =>
            refine ⟨kk + 1, _, by omega, by omega, by go_num, rfl, ⟨fun j hj => ?_⟩⟩
            by_cases e : j = kk
            · subst e
              rw [← HX.out, ← HY.out]; exact HXY.out
            · exact HE.out j (by omega)
        · have hf : (x != y) = true := by simp [hxy]
          have HXY := Aside0.mk hxy
          clear hxy
          go_wp2
          go_quiet (fail)
          go_wp2
          go_ret
          have : decide (a = b) = false := by
            apply decide_eq_false
            intro e
            exact HXY.out (by rw [HX.out, HY.out, e])
          rw [this]
          exact ⟨rfl, _, World.drewN_drewN _ _ _⟩
      · have hkk2 : kk = a.length := by omega
        subst hkk2
        clear hl
        go_wp2
        go_ret
        have : decide (a = b) = true := by
          apply decide_eq_true
          apply List.ext_getElem HL.out
          intro j h1 h2
          have := HE.out j h1
          simpa [h1, h2] using this
        rw [this]
        exact ⟨rfl, _, rfl⟩
  · have e : decide (a = b) = false := decide_eq_false (fun h => hlen (by rw [h]))
    rw [e]
    have hne : ((a.length : Int) != (b.length : Int)) = true := by simp; omega
    clear ha hb hlen e
    go_enter Try.func16, Try.ntmps16
    go_wp2
    go_ret
    exact ⟨rfl, 0, rfl⟩
theorem reads_R {W : World} {base : Nat} {ok : Nat → Prop} {A : Option Addr} {n c : Nat} {xs : List Int} (h : Kd.R (Kd.int .i64) 3 W base ok (.slice A n c) xs) : ReadsI W A xs := by
  intro j hj
  obtain ⟨h1, h2, h3⟩ := Kd.R_reads' h
  obtain ⟨ad, e, hc⟩ := Kd.at_int h3 (j : Int) (by omega) (by omega)
  refine ⟨ad, e, ?_⟩
  simpa [rd] using hc
def s1 : HM := ⟨1, [0, 100, 0], []⟩
def s2 : HM := ⟨1, [0, 100, 0], [(0, 100)]⟩
def s3 : HM := ⟨1, [0, 0, 0], [(0, 100)]⟩
def s4 : HM := ⟨1, [0, 0, 0], []⟩
theorem sane1 : holdD (newM 1) 0 1 100 = (s1, [], 0) := by kernel_rfl
theorem sane2 : retireD s1 0 100 = (s2, [], 0) := by kernel_rfl
theorem sane3 : restD s2 = (s2, [], 0) := by kernel_rfl
theorem sane4 : outD s2 0 = (s3, [], 0) := by kernel_rfl
theorem sane5 : restD s3 = (s4, [100], 0) := by kernel_rfl
theorem lowR {w w' : World} {r : HM × List Int × Int} {B g : Nat} {A : Option Addr} {wv : Value} {e : Ending} (h : Told B w g A wv r e w') : w.heap.size ≤ w'.heap.size := by
  obtain ⟨v, _, _, wv2, _, hk, _⟩ := h
  exact hk.1
theorem rest_as {B : Nat} {w : World} {g : Nat} {A : Option Addr} {wv : Value} {m m' : HM} {l : List Int} (hm : Man B w g A wv m) (hB : B ≤ w.heap.size) (hl : m.ws.length ≤ 100000) (he : restD m = (m', l, 0)) :
    Calls Try.prog 24 #[.pointer (some ⟨g, 0, none⟩)] w fun e w' => ∃ v, e = .returned v ∧ Kd.R (Kd.int .i64) 3 w' w.heap.size (fun _ => True) v l ∧ After B w g A wv m' w' := by
  have h := rest_calls hm hB hl
  have h1 : (restTo m m.n).1 = m' := congrArg (fun r : HM × List Int × Int => r.1) he
  have h2 : (restTo m m.n).2 = l := congrArg (fun r : HM × List Int × Int => r.2.1) he
  rw [h1, h2] at h
  exact h
set_option maxHeartbeats 8000000 in
set_option maxRecDepth 100000 in
theorem sane_calls (w : World) : Calls Try.prog 9 #[] w fun e w' => e = .returned (.bool true) ∧ Below w.heap.size w w' := by
  have h1 := new_calls w.heap.size 1 w (Nat.le_refl _) (by decide) (by decide)
  have H1 := Aside0.mk h1
  clear h1
  go_enter Try.func9, Try.ntmps9
  go_wp2_with (first
    | (go_at_call 10; refine (H1.out).mono ?_; rintro e w1 ⟨g, A, wv1, rfl, hm, hb, _⟩; have M1 := Aside0.mk hm; have B1 := Aside0.mk hb; clear hm hb)
    | (go_at_call 25; refine (hold_told M1.out B1.out.size 0 1 100).mono ?_; rintro e w2 ht; rw [sane1] at ht; obtain ⟨v, rfl, _, wv2, hm, _, hb, _⟩ := ht; have M2 := Aside0.mk hm; have B2 := Aside0.mk (B1.out.trans hb); clear hm hb M1)
    | (go_at_call 26; refine (retire_told M2.out B2.out.size (by decide) 0 100).mono ?_; rintro e w3 ht; rw [sane2] at ht; obtain ⟨v, rfl, _, wv3, hm, _, hb, _⟩ := ht; have M3 := Aside0.mk hm; have B3 := Aside0.mk (B2.out.trans hb); clear hm hb M2)
    | (go_at_call 27; refine (out_told M4.out B4.out.size 0).mono ?_; rintro e w5 ht; rw [sane4] at ht; obtain ⟨v, rfl, _, wv5, hm, _, hb, _⟩ := ht; have M5 := Aside0.mk hm; have B5 := Aside0.mk (B4.out.trans hb); clear hm hb M4)
    | (go_at_call 24; refine (rest_as M5.out B5.out.size (by decide) sane5).mono ?_; rintro e w6 ⟨v, rfl, hr, wv6, hm, _, hb, _⟩; obtain ⟨A6, c6, rfl⟩ := Kd.R_slice hr; have R6 := Aside0.mk hr; have B6 := Aside0.mk (B5.out.trans hb); clear hm hb hr M5)
    | (go_at_call 24; refine (rest_as M3.out B3.out.size (by decide) sane3).mono ?_; rintro e w4 ⟨v, rfl, hr, wv4, hm, _, hb, _⟩; obtain ⟨A4, c4, rfl⟩ := Kd.R_slice hr; have M4 := Aside0.mk hm; have B4 := Aside0.mk (B3.out.trans hb); clear hm hb hr M3)
    | (go_at_call 16; refine (intsEq A6 (some ⟨w6.heap.size, 0, none⟩) c6 1 [100] [100] _ (reads_R (Kd.R_alloc R6.out _)) (fun j hj => ⟨_, rfl, by have h0 : j = 0 := (by simp at hj; omega); subst h0; exact Go.Lib.cell_of_heap (heap_alloc_new _ _) 0⟩) (by decide)).mono ?_; rintro e w7 ⟨rfl, q, rfl⟩))
  go_ret
  exact ⟨rfl, by repeat (first | apply pw_below_drewN | exact B6.out.alloc B6.out.size _)⟩
end Go.Proofs.Ytgdadefobhfkcaa.Hy
