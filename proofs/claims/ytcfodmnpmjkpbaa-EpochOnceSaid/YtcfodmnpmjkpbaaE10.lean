/- New of an epoch manager, and an act done with it: plain lemmas; no condition. -/
import Derived.Test.YtcfodmnpmjkpbaaE9
namespace Go.Proofs.Ytcfodmnpmjkpbaa.Ep
open Go.RowKit Go.Proofs.YtcfodmnpmjkpbaaW.PrintWords Go.Proofs.YtcfodmnpmjkpbaaW.PrintLast Go.Proofs.YtcfodmnpmjkpbaaW.PrintMore
set_option linter.unusedVariables false
set_option linter.unusedSimpArgs false
set_option maxHeartbeats 8000000
set_option maxRecDepth 100000
def newM (n : Nat) : EM := ⟨0, List.replicate n (-1), []⟩
theorem new_bad (t : Int) (w : World) (h : t < 1 ∨ 4 < t) : Calls Try.prog 14 #[.int .i64 t] w fun e w' => e = .returned (.tuple #[.pointer none, .int .i64 1]) ∧ w' = w := by
  rcases h with h | h
  all_goals
    go_enter Try.func14, Try.ntmps14
    go_wp2
    go_ret2
    exact ⟨rfl, rfl⟩
theorem new_calls (B : Nat) (n : Nat) (w : World) (hB : B ≤ w.heap.size) (h1 : 1 ≤ n) (h4 : n ≤ 4) : Calls Try.prog 14 #[.int .i64 n] w fun e w' => ∃ g tv, e = .returned (.tuple #[.pointer (some ⟨g, 0, none⟩), .int .i64 0]) ∧ Man B w' g tv (.slice none 0 0) (newM n) ∧ Below w.heap.size w w' ∧ ∀ k, foot g tv (.slice none 0 0) k → w.heap.size ≤ k := by
  have n1 := heap_alloc_new w (.cells #[.int .i64 (-1)] 3 (0, 0))
  have s1 := alloc_size w (.cells #[.int .i64 (-1)] 3 (0, 0))
  have b1 := (Below.refl w.heap.size w).alloc (Nat.le_refl _) (.cells #[.int .i64 (-1)] 3 (0, 0))
  have hC : Kd.C (Kd.int .i64) (w.alloc (.cells #[.int .i64 (-1)] 3 (0, 0))) (some ⟨w.heap.size, 0, none⟩) [(-1 : Int)].length [(-1 : Int)] := by
    refine (Kd.R_reads' (e := 3) (base := w.heap.size) (ok := fun _ => True) (c := 1) (Kd.R_of_own (h1 := fun _ => rfl) ⟨by simp [encs], .inr ⟨w.heap.size, 1, _, rfl, Nat.le_refl _, n1, by decide, by decide, by simp, by simp [encs]⟩⟩ (fun _ _ => trivial))).2.2
  have hf : repeatI.f [(-1 : Int)] (n : Int) = some (List.replicate n (-1)) := by
    unfold repeatI.f
    rw [if_pos (by simp; omega)]
    simp [rd]
  have hrep := repeatI.calls (some ⟨w.heap.size, 0, none⟩) 1 [(-1 : Int)] n _ _ hC (by decide) hf
  have hrep2 : Calls Try.prog 31 #[.slice (some ⟨w.heap.size, 0, none⟩) 1 1, .int .i64 n] (w.alloc (.cells #[.int .i64 (-1)] 3 (0, 0))) fun e w' => ∃ A c, e = .returned (.slice A n c) ∧ w'.ownsRow (w.heap.size + 1) 3 1 (.slice A n c) n (ints (List.replicate n (-1))) ∧ Below w.heap.size w w' := by
    refine hrep.mono ?_
    rintro e w' ⟨v, rfl, hr, hb⟩
    have ho := Kd.own_of_R hr
    rw [List.length_replicate, s1] at ho
    obtain ⟨A, c, rfl⟩ := own_form ho
    exact ⟨A, c, rfl, ho, btrans b1 hb⟩
  clear hrep hf hC n1 b1
  have S1 := Aside0.mk s1
  clear s1
  go_enter Try.func14, Try.ntmps14
  go_wp2_with (go_at_call 31; refine hrep2.mono ?_; rintro e w1 ⟨A, c, rfl, ho, hb⟩; have HO := Aside0.mk ho; have HB := Aside0.mk hb; clear ho hb)
  go_ret2
  have hsz := HB.out.size
  have hn := heap_alloc_new w1 (.cells #[.int .i64 0, .slice A n c, .slice none 0 0] 69 (0, 0))
  have hb2 := HB.out.alloc hsz (.cells #[.int .i64 0, .slice A n c, .slice none 0 0] 69 (0, 0))
  have hl : (newM n).th.length = n := by simp [newM]
  refine ⟨_, _, rfl, ⟨by rw [hl]; exact h4, by omega, hn, ?_, ⟨rfl, .inl ⟨rfl, rfl⟩⟩⟩, hb2, fun k hk => ?_⟩
  · rw [hl]
    obtain ⟨p1, p2⟩ := HO.out.alloc (.cells #[.int .i64 0, .slice A n c, .slice none 0 0] 69 (0, 0))
    refine ⟨p1, p2.imp_right ?_⟩
    rintro ⟨b, cap, cur, e, h3, h5⟩
    exact ⟨b, cap, cur, e, by omega, h5⟩
  · rcases hk with rfl | hk | hk
    · exact hsz
    · have := own_base HO.out k hk; omega
    · exact absurd hk (by simp [Value.ownBlock])
/-- An act's answer: the manager behind it, what comes back, the error. -/
def inD (m : EM) (t : Int) : EM × List Int × Int := if bad m t = true then (m, [], 1) else (inned m t.toNat, [], 0)
def outD (m : EM) (t : Int) : EM × List Int × Int := if bad m t = true then (m, [], 1) else (outed m t.toNat, [], 0)
def retireD (m : EM) (t a : Int) : EM × List Int × Int :=
  if (bad m t || decide (a < 1)) = true then (m, [], 1) else if (addrs m).contains a = true then (m, [], 6) else (tried (lined m a), tryBack (lined m a), 0)
def restD (m : EM) : EM × List Int × Int := (rested m, restBack m, 0)
def deed (m : EM) (d t k a : Int) : EM × List Int × Int :=
  if d = 0 then inD m t else if d = 1 then outD m t else if d = 2 then (m, [], holdE m t k a) else if d = 3 then (m, [], bornE m a) else if d = 4 then retireD m t a else if d = 5 then restD m else (m, [], 0)
/-- What a call that does an act leaves. -/
def Told (B : Nat) (w : World) (g : Nat) (tv wv : Value) (r : EM × List Int × Int) (e : Ending) (w' : World) : Prop :=
  ∃ v, e = .returned (.tuple #[v, .int .i64 r.2.2]) ∧ Kd.R (Kd.int .i64) 3 w' w.heap.size (fun _ => True) v r.2.1 ∧ After B w g tv wv r.1 w'
section
variable {B : Nat} {w : World} {g : Nat} {tv wv : Value} {m : EM}
theorem told_same (hm : Man B w g tv wv m) (hB : B ≤ w.heap.size) (er : Int) (w' : World) (hb : Below w.heap.size w w') : Told B w g tv wv (m, [], er) (.returned (.tuple #[.slice none 0 0, .int .i64 er])) w' :=
  ⟨_, rfl, Kd.R_nil _ _ _ _ _, After.grow hm hB hb⟩
theorem in_told (hm : Man B w g tv wv m) (hB : B ≤ w.heap.size) (t : Int) : Calls Try.prog 23 #[.pointer (some ⟨g, 0, none⟩), .int .i64 t] w (Told B w g tv wv (inD m t)) := by
  unfold inD
  cases h : bad m t with
  | true =>
    refine (in_bad hm t h).mono ?_
    rintro e w' ⟨rfl, rfl⟩
    exact told_same hm hB 1 _ (Below.refl _ _)
  | false =>
    refine (in_good hm t h).mono ?_
    rintro e w' ⟨rfl, h1⟩
    exact ⟨_, rfl, Kd.R_nil _ _ _ _ _, h1⟩
theorem out_told (hm : Man B w g tv wv m) (hB : B ≤ w.heap.size) (t : Int) : Calls Try.prog 26 #[.pointer (some ⟨g, 0, none⟩), .int .i64 t] w (Told B w g tv wv (outD m t)) := by
  unfold outD
  cases h : bad m t with
  | true =>
    refine (out_bad hm t h).mono ?_
    rintro e w' ⟨rfl, rfl⟩
    exact told_same hm hB 1 _ (Below.refl _ _)
  | false =>
    refine (out_good hm t h).mono ?_
    rintro e w' ⟨rfl, h1⟩
    exact ⟨_, rfl, Kd.R_nil _ _ _ _ _, h1⟩
theorem retire_told (hm : Man B w g tv wv m) (hB : B ≤ w.heap.size) (hl : m.ws.length ≤ 100000) (he0 : 0 ≤ m.ep) (he : m.ep ≤ 90000) (t a : Int) : Calls Try.prog 24 #[.pointer (some ⟨g, 0, none⟩), .int .i64 t, .int .i64 a] w (Told B w g tv wv (retireD m t a)) := by
  unfold retireD
  by_cases h : (bad m t || decide (a < 1)) = true
  · rw [if_pos h]
    refine (retire_no _ _ t a (has_calls hm t) h).mono ?_
    rintro e w' ⟨rfl, rfl⟩
    exact told_same hm hB _ _ (Below.refl _ _)
  · rw [if_neg h]
    simp only [Bool.or_eq_true, decide_eq_true_eq, not_or] at h
    by_cases h3 : (addrs m).contains a = true
    · rw [if_pos h3]
      refine (retire_dup hm (by omega) t a (by simpa using h.1) h.2 h3).mono ?_
      rintro e w' ⟨rfl, hb⟩
      exact told_same hm hB _ _ hb
    · rw [if_neg h3]
      exact retire_add hm hB hl he0 (by omega) t a (by simpa using h.1) h.2 (Bool.eq_false_iff.2 h3)
theorem rest_told (hm : Man B w g tv wv m) (hB : B ≤ w.heap.size) (h0 : 0 < m.th.length) (hl : m.ws.length ≤ 100000) (he0 : 0 ≤ m.ep) (he : m.ep ≤ 90000) :
    Calls Try.prog 27 #[.pointer (some ⟨g, 0, none⟩)] w fun e w' => ∃ v, e = .returned v ∧ Told B w g tv wv (restD m) (.returned (.tuple #[v, .int .i64 0])) w' := by
  refine (rest_calls hm hB h0 hl he0 he).mono ?_
  rintro e w' ⟨v, rfl, hr, ha⟩
  exact ⟨v, rfl, v, rfl, hr, ha⟩
theorem Told.up {w0 : World} {r : EM × List Int × Int} {e : Ending} {w' : World} (hb : Below w0.heap.size w0 w) (hB : B ≤ w0.heap.size) (h : Told B w g tv wv r e w') : Told B w0 g tv wv r e w' := by
  obtain ⟨v, he, hr, ha⟩ := h
  exact ⟨v, he, Kd.R_lower hr hb.size, After.then_ (Kept.of_below hb _) (hb.mono hB) (fun k hk => .inl hk) ha⟩
theorem do_calls (hm : Man B w g tv wv m) (hB : B ≤ w.heap.size) (h0 : 0 < m.th.length) (hl : m.ws.length ≤ 100000) (he0 : 0 ≤ m.ep) (he : m.ep ≤ 90000) (d t k a : Int) :
    Calls Try.prog 16 #[.pointer (some ⟨g, 0, none⟩), .agg #[.int .i64 d, .int .i64 t, .int .i64 k, .int .i64 a]] w (Told B w g tv wv (deed m d t k a)) := by
  have hbe := (Below.refl w.heap.size w).alloc (Nat.le_refl _) (.cells #[.int .i64 d, .int .i64 t, .int .i64 k, .int .i64 a] 45 (0, 0))
  have hm2 := hm.grow hbe
  have hB2 : B ≤ (w.alloc (.cells #[.int .i64 d, .int .i64 t, .int .i64 k, .int .i64 a] 45 (0, 0))).heap.size := Nat.le_trans hB hbe.size
  have HBE := Aside0.mk hbe
  unfold deed
  by_cases h0 : d = 0
  · subst h0
    have hc := Aside0.mk (in_told hm2 hB2 t)
    clear hm hm2 hbe
    rw [if_pos rfl]
    go_enter Try.func16, Try.ntmps16
    go_wp2_with (go_at_call 23; refine (hc.out).mono ?_; rintro e w' ht; have HT := Aside0.mk (Told.up HBE.out hB ht); obtain ⟨v, rfl, _, _⟩ := ht)
    go_ret2
    exact HT.out
  · rw [if_neg h0]
    by_cases h1 : d = 1
    · subst h1
      rw [if_pos rfl]
      have hc := Aside0.mk (out_told hm2 hB2 t)
      clear hm hm2 hbe
      go_enter Try.func16, Try.ntmps16
      go_wp2_with (go_at_call 26; refine (hc.out).mono ?_; rintro e w' ht; have HT := Aside0.mk (Told.up HBE.out hB ht); obtain ⟨v, rfl, _, _⟩ := ht)
      go_ret2
      exact HT.out
    · rw [if_neg h1]
      by_cases h2 : d = 2
      · subst h2
        rw [if_pos rfl]
        have hc := Aside0.mk (hold_calls hm2 t k a)
        have HT := Aside0.mk (Told.up hbe hB (told_same hm2 hB2 (holdE m t k a) _ (Below.refl _ _)))
        generalize holdE m t k a = er at hc HT ⊢
        clear hm hm2 hbe
        go_enter Try.func16, Try.ntmps16
        go_wp2_with (go_at_call 28; refine (hc.out).mono ?_; rintro e w' ⟨rfl, rfl⟩)
        go_ret2
        exact HT.out
      · rw [if_neg h2]
        by_cases h3 : d = 3
        · subst h3
          rw [if_pos rfl]
          have hc := Aside0.mk (born_calls hm2 a)
          have HT := Aside0.mk (Told.up hbe hB (told_same hm2 hB2 (bornE m a) _ (Below.refl _ _)))
          generalize bornE m a = er at hc HT ⊢
          clear hm hm2 hbe
          go_enter Try.func16, Try.ntmps16
          go_wp2_with (go_at_call 29; refine (hc.out).mono ?_; rintro e w' ⟨rfl, rfl⟩)
          go_ret2
          exact HT.out
        · rw [if_neg h3]
          by_cases h4 : d = 4
          · subst h4
            rw [if_pos rfl]
            have hc := Aside0.mk (retire_told hm2 hB2 hl he0 he t a)
            clear hm hm2 hbe
            go_enter Try.func16, Try.ntmps16
            go_wp2_with (go_at_call 24; refine (hc.out).mono ?_; rintro e w' ht; have HT := Aside0.mk (Told.up HBE.out hB ht); obtain ⟨v, rfl, _, _⟩ := ht)
            go_ret2
            exact HT.out
          · rw [if_neg h4]
            by_cases h5 : d = 5
            · subst h5
              rw [if_pos rfl]
              have hc := Aside0.mk (rest_told hm2 hB2 (by assumption) hl he0 he)
              clear hm hm2 hbe
              go_enter Try.func16, Try.ntmps16
              go_wp2_with (go_at_call 27; refine (hc.out).mono ?_; rintro e w' ⟨v, rfl, ht⟩; have HT := Aside0.mk (Told.up HBE.out hB ht); clear ht)
              go_ret2
              exact HT.out
            · rw [if_neg h5]
              have HT := Aside0.mk (told_same hm hB 0 _ hbe)
              have f0 : (d == 0) = false := by simpa using h0
              have f1 : (d == 1) = false := by simpa using h1
              have f2 : (d == 2) = false := by simpa using h2
              have f3 : (d == 3) = false := by simpa using h3
              have f4 : (d == 4) = false := by simpa using h4
              have f5 : (d == 5) = false := by simpa using h5
              clear hm hm2 hbe h0 h1 h2 h3 h4 h5
              go_enter Try.func16, Try.ntmps16
              go_wp2
              go_ret2
              exact HT.out
end
end Go.Proofs.Ytcfodmnpmjkpbaa.Ep
