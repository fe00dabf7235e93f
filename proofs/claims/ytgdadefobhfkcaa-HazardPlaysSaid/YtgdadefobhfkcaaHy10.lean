/- A deed at a manager, as the law's function done does it: plain lemmas; no condition. -/
import Derived.Test.YtgdadefobhfkcaaHy9
namespace Go.Proofs.Ytgdadefobhfkcaa.Hy
open Go.RowKit Go.Proofs.YtgdadefobhfkcaaW.PrintWords Go.Proofs.YtgdadefobhfkcaaW.PrintLast Go.Proofs.YtgdadefobhfkcaaW.PrintMore
set_option linter.unusedVariables false
set_option linter.unusedSimpArgs false

def retireD (m : HM) (t a : Int) : HM × List Int × Int :=
  if (bad m t || decide (a < 1)) = true then (m, [], 1) else if (m.ws.any fun x => x.2 == a) = true then (m, [], 6)
  else if mine (retired m t a) t ≤ 3 * m.n then (retired m t a, [], 0) else (scanned (retired m t a) t, backs (retired m t a) t, 0)
def outD (m : HM) (t : Int) : HM × List Int × Int := if bad m t = true then (m, [], 1) else (outed m t.toNat, [], 0)
def holdD (m : HM) (t k a : Int) : HM × List Int × Int := if (bad m t || decide (k < 0) || decide (3 ≤ k) || decide (a < 0)) = true then (m, [], 1) else (held m t.toNat k.toNat a, [], 0)
def inD (m : HM) (t : Int) : HM × List Int × Int := (m, [], if bad m t = true then 1 else 0)
def bornD (m : HM) (a : Int) : HM × List Int × Int := (m, [], if (bad m 0 || decide (a < 1)) = true then 1 else 0)
def restD (m : HM) : HM × List Int × Int := ((restTo m m.n).1, (restTo m m.n).2, 0)
def deed (m : HM) (d t k a : Int) : HM × List Int × Int :=
  if d = 0 then inD m t else if d = 1 then outD m t else if d = 2 then holdD m t k a else if d = 3 then bornD m a else if d = 4 then retireD m t a else if d = 5 then restD m else (m, [], 0)
/-- What a call that does a deed leaves. -/
def Told (B : Nat) (w : World) (g : Nat) (A : Option Addr) (wv : Value) (r : HM × List Int × Int) (e : Ending) (w' : World) : Prop :=
  ∃ v, e = .returned (.tuple #[v, .int .i64 r.2.2]) ∧ Kd.R (Kd.int .i64) 3 w' w.heap.size (fun _ => True) v r.2.1 ∧ After B w g A wv r.1 w'
section
variable {B : Nat} {w : World} {g : Nat} {A : Option Addr} {wv : Value} {m : HM}
theorem told_same (hm : Man B w g A wv m) (hB : B ≤ w.heap.size) (er : Int) (w' : World) (hb : Below w.heap.size w w') : Told B w g A wv (m, [], er) (.returned (.tuple #[.slice none 0 0, .int .i64 er])) w' :=
  ⟨_, rfl, Kd.R_nil _ _ _ _ _, After.grow hm hB hb⟩
theorem in_told (hm : Man B w g A wv m) (hB : B ≤ w.heap.size) (t : Int) : Calls Try.prog 28 #[.pointer (some ⟨g, 0, none⟩), .int .i64 t] w (Told B w g A wv (inD m t)) := by
  refine (in_calls hm t).mono ?_
  rintro e w' ⟨rfl, rfl⟩
  exact told_same hm hB _ _ (Below.refl _ _)
set_option maxHeartbeats 8000000 in
set_option maxRecDepth 100000 in
theorem out_told (hm : Man B w g A wv m) (hB : B ≤ w.heap.size) (t : Int) : Calls Try.prog 27 #[.pointer (some ⟨g, 0, none⟩), .int .i64 t] w (Told B w g A wv (outD m t)) := by
  unfold outD
  cases h : bad m t with
  | true =>
    rw [if_pos rfl]
    have hc := no_calls hm t
    rw [h] at hc
    have HT := Aside0.mk (told_same hm hB 1 w (Below.refl _ _))
    clear hm
    go_enter Try.func27, Try.ntmps27
    go_wp2_with (go_at_call 41; refine hc.mono ?_; rintro e w' ⟨rfl, rfl⟩)
    go_ret2
    exact HT.out
  | false =>
    rw [if_neg (by decide)]
    refine (out_calls hm t h).mono ?_
    rintro e w' ⟨rfl, h1, h2, h3⟩
    exact ⟨_, rfl, Kd.R_nil _ _ _ _ _, wv, h1, h2, h3, fun k hk => .inl hk⟩
set_option maxHeartbeats 8000000 in
set_option maxRecDepth 100000 in
theorem hold_told (hm : Man B w g A wv m) (hB : B ≤ w.heap.size) (t k a : Int) : Calls Try.prog 25 #[.pointer (some ⟨g, 0, none⟩), .int .i64 t, .int .i64 k, .int .i64 a] w (Told B w g A wv (holdD m t k a)) := by
  unfold holdD
  by_cases h : (bad m t || decide (k < 0) || decide (3 ≤ k) || decide (a < 0)) = true
  · rw [if_pos h]
    have hc := no_calls hm t
    have HT := Aside0.mk (told_same hm hB 1 w (Below.refl _ _))
    clear hm
    generalize bad m t = b at hc h
    cases b
    · by_cases h1 : k < 0
      · go_enter Try.func25, Try.ntmps25
        go_wp2_with (go_at_call 41; refine hc.mono ?_; rintro e w' ⟨rfl, rfl⟩)
        go_ret2
        exact HT.out
      · by_cases h2 : 3 ≤ k
        · go_enter Try.func25, Try.ntmps25
          go_wp2_with (go_at_call 41; refine hc.mono ?_; rintro e w' ⟨rfl, rfl⟩)
          go_ret2
          exact HT.out
        · have h3 : a < 0 := by simpa [h1, h2] using h
          clear h
          go_enter Try.func25, Try.ntmps25
          go_wp2_with (go_at_call 41; refine hc.mono ?_; rintro e w' ⟨rfl, rfl⟩)
          go_ret2
          exact HT.out
    · clear h
      go_enter Try.func25, Try.ntmps25
      go_wp2_with (go_at_call 41; refine hc.mono ?_; rintro e w' ⟨rfl, rfl⟩)
      go_ret2
      exact HT.out
  · rw [if_neg h]
    simp only [Bool.or_eq_true, decide_eq_true_eq, not_or] at h
    obtain ⟨⟨⟨h1, h2⟩, h3⟩, h4⟩ := h
    refine (hold_calls hm t k a (by simpa using h1) (by omega) (by omega) (by omega)).mono ?_
    rintro e w' ⟨rfl, p1, p2, p3⟩
    exact ⟨_, rfl, Kd.R_nil _ _ _ _ _, wv, p1, p2, p3, fun k hk => .inl hk⟩
theorem retire_told (hm : Man B w g A wv m) (hB : B ≤ w.heap.size) (hl : m.ws.length ≤ 100000) (t a : Int) : Calls Try.prog 26 #[.pointer (some ⟨g, 0, none⟩), .int .i64 t, .int .i64 a] w (Told B w g A wv (retireD m t a)) := by
  unfold retireD
  by_cases h : (bad m t || decide (a < 1)) = true
  · rw [if_pos h]
    refine (retire_bad hm t a h).mono ?_
    rintro e w' ⟨rfl, hb⟩
    exact told_same hm hB _ _ hb
  · rw [if_neg h]
    simp only [Bool.or_eq_true, decide_eq_true_eq, not_or] at h
    by_cases h3 : (m.ws.any fun x => x.2 == a) = true
    · rw [if_pos h3]
      refine (retire_dup hm (by omega) t a (by simpa using h.1) h.2 h3).mono ?_
      rintro e w' ⟨rfl, hb⟩
      exact told_same hm hB _ _ hb
    · rw [if_neg h3]
      refine (retire_add hm hB hl t a (by simpa using h.1) h.2 (Bool.eq_false_iff.2 h3)).mono ?_
      rintro e w' ⟨v, rfl, hr, ha⟩
      by_cases h5 : mine (retired m t a) t ≤ 3 * m.n
      · rw [if_pos h5] at hr ha ⊢
        exact ⟨v, rfl, hr, ha⟩
      · rw [if_neg h5] at hr ha ⊢
        exact ⟨v, rfl, hr, ha⟩
theorem Told.up {w0 : World} {r : HM × List Int × Int} {e : Ending} {w' : World} (hb : Below w0.heap.size w0 w) (hB : B ≤ w0.heap.size) (h : Told B w g A wv r e w') : Told B w0 g A wv r e w' := by
  obtain ⟨v, he, hr, ha⟩ := h
  exact ⟨v, he, Kd.R_lower hr hb.size, After.then_ (Kept.of_below hb _) (hb.mono hB) (fun k hk => .inl hk) ha⟩
set_option maxHeartbeats 8000000 in
set_option maxRecDepth 100000 in
theorem done_calls (hm : Man B w g A wv m) (hB : B ≤ w.heap.size) (hl : m.ws.length ≤ 100000) (d t k a : Int) :
    Calls Try.prog 11 #[.pointer (some ⟨g, 0, none⟩), .agg #[.int .i64 d, .int .i64 t, .int .i64 k, .int .i64 a]] w (Told B w g A wv (deed m d t k a)) := by
  have hbe := (Below.refl w.heap.size w).alloc (Nat.le_refl _) (.cells #[.int .i64 d, .int .i64 t, .int .i64 k, .int .i64 a] 33 (0, 0))
  have hm2 := hm.grow hbe
  have hB2 : B ≤ (w.alloc (.cells #[.int .i64 d, .int .i64 t, .int .i64 k, .int .i64 a] 33 (0, 0))).heap.size := Nat.le_trans hB hbe.size
  have HBE := Aside0.mk hbe
  unfold deed
  by_cases h0 : d = 0
  · subst h0
    have hc := Aside0.mk (in_told hm2 hB2 t)
    clear hm hm2 hbe
    rw [if_pos rfl]
    go_enter Try.func11, Try.ntmps11
    go_wp2_with (go_at_call 28; refine (hc.out).mono ?_; rintro e w' ht; have HT := Aside0.mk (Told.up HBE.out hB ht); obtain ⟨v, rfl, _, _⟩ := ht)
    go_ret2
    exact HT.out
  · rw [if_neg h0]
    by_cases h1 : d = 1
    · subst h1
      rw [if_pos rfl]
      have hc := Aside0.mk (out_told hm2 hB2 t)
      clear hm hm2 hbe
      go_enter Try.func11, Try.ntmps11
      go_wp2_with (go_at_call 27; refine (hc.out).mono ?_; rintro e w' ht; have HT := Aside0.mk (Told.up HBE.out hB ht); obtain ⟨v, rfl, _, _⟩ := ht)
      go_ret2
      exact HT.out
    · rw [if_neg h1]
      by_cases h2 : d = 2
      · subst h2
        rw [if_pos rfl]
        have hc := Aside0.mk (hold_told hm2 hB2 t k a)
        clear hm hm2 hbe
        go_enter Try.func11, Try.ntmps11
        go_wp2_with (go_at_call 25; refine (hc.out).mono ?_; rintro e w' ht; have HT := Aside0.mk (Told.up HBE.out hB ht); obtain ⟨v, rfl, _, _⟩ := ht)
        go_ret2
        exact HT.out
      · rw [if_neg h2]
        by_cases h3 : d = 3
        · subst h3
          rw [if_pos rfl]
          have hc := Aside0.mk (born_calls hm2 a)
          have HT := Aside0.mk (Told.up hbe hB (told_same hm2 hB2 (if (bad m 0 || decide (a < 1)) = true then 1 else 0) _ (Below.refl _ _)))
          unfold bornD
          generalize (if (bad m 0 || decide (a < 1)) = true then (1 : Int) else 0) = er at hc HT ⊢
          clear hm hm2 hbe
          go_enter Try.func11, Try.ntmps11
          go_wp2_with (go_at_call 29; refine (hc.out).mono ?_; rintro e w' ⟨rfl, rfl⟩)
          go_ret2
          exact HT.out
        · rw [if_neg h3]
          by_cases h4 : d = 4
          · subst h4
            rw [if_pos rfl]
            have hc := Aside0.mk (retire_told hm2 hB2 hl t a)
            clear hm hm2 hbe
            go_enter Try.func11, Try.ntmps11
            go_wp2_with (go_at_call 26; refine (hc.out).mono ?_; rintro e w' ht; have HT := Aside0.mk (Told.up HBE.out hB ht); obtain ⟨v, rfl, _, _⟩ := ht)
            go_ret2
            exact HT.out
          · rw [if_neg h4]
            by_cases h5 : d = 5
            · subst h5
              rw [if_pos rfl]
              have hc := Aside0.mk (rest_calls hm2 hB2 hl)
              unfold restD
              clear hm hm2 hbe
              go_enter Try.func11, Try.ntmps11
              go_wp2_with (go_at_call 24; refine (hc.out).mono ?_; rintro e w' ⟨v, rfl, hr, ha⟩; have HT := Aside0.mk (Told.up (r := ((restTo m m.n).1, (restTo m m.n).2, 0)) HBE.out hB ⟨v, rfl, hr, ha⟩); clear hr ha)
              go_ret2
              exact HT.out
            · rw [if_neg h5]
              have HT := Aside0.mk (told_same hm hB 0 _ hbe)
              have f0 : (d == 0) = false := by simpa using h0
              have f1 : (d == 1) = false := by simpa using h1
              have f2 : (d == 2) = false := by simpa using h2
              have f3 : (d == 3) = false := by simpa using h3
              have f4 : (d == 4) = false := by simpa using h4
              have f5 : (d == 5) = false := by simpa using h5
              clear hm hm2 hbe h0 h1 h2 h3 h4 h5
              go_enter Try.func11, Try.ntmps11
              go_wp2
              go_ret2
              exact HT.out
end
end Go.Proofs.Ytgdadefobhfkcaa.Hy
