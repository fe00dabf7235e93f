/- Rest of the reference, and an act done with it: plain lemmas; no condition. -/
import Derived.Test.YtcfodmnpmjkpbaaF6
namespace Go.Proofs.Ytcfodmnpmjkpbaa.Ep
open Go.RowKit Go.Proofs.YtcfodmnpmjkpbaaW.PrintWords Go.Proofs.YtcfodmnpmjkpbaaW.PrintLast Go.Proofs.YtcfodmnpmjkpbaaW.PrintMore
set_option linter.unusedVariables false
set_option linter.unusedSimpArgs false
set_option maxHeartbeats 8000000
set_option maxRecDepth 100000
def rrestTo (m : RM) : Nat → RM × List Int
  | 0 => (m, [])
  | k + 1 => (rtried (rrestTo m k).1, (rrestTo m k).2 ++ rtryBack (rrestTo m k).1)
theorem rtried_facts (m : RM) : (rtried m).n = m.n ∧ (rtried m).its.length + (rtryBack m).length = m.its.length ∧ m.now ≤ (rtried m).now ∧ (rtried m).now ≤ m.now + 1 := by
  unfold rtried rtryBack
  cases h : rstuck m with
  | true => simp; omega
  | false =>
    simp only [Bool.false_eq_true, if_false]
    refine ⟨rfl, ?_, by show m.now ≤ m.now + 1; omega, Int.le_refl _⟩
    unfold swept sweptBack
    simp only
    rw [List.length_map]
    have : ∀ (p : P3 → Bool) (l : List P3), (l.filter fun x => !p x).length + (l.filter p).length = l.length := by
      intro p l
      induction l with
      | nil => rfl
      | cons x r ih => cases h : p x <;> simp [h] <;> omega
    exact this _ _
theorem rrestTo_facts (m : RM) : ∀ k, (rrestTo m k).1.n = m.n ∧ (rrestTo m k).1.its.length + (rrestTo m k).2.length = m.its.length ∧ m.now ≤ (rrestTo m k).1.now ∧ (rrestTo m k).1.now ≤ m.now + k := by
  intro k
  induction k with
  | zero => exact ⟨rfl, rfl, Int.le_refl _, by simp [rrestTo]⟩
  | succ k ih =>
    obtain ⟨h1, h2, h3, h4⟩ := rtried_facts (rrestTo m k).1
    show (rtried (rrestTo m k).1).n = m.n ∧ (rtried (rrestTo m k).1).its.length + ((rrestTo m k).2 ++ rtryBack (rrestTo m k).1).length = m.its.length ∧ _ ≤ (rtried (rrestTo m k).1).now ∧ (rtried (rrestTo m k).1).now ≤ _
    rw [List.length_append]
    refine ⟨h1.trans ih.1, ?_, ?_, ?_⟩ <;> omega
section
variable {B : Nat} {w : World} {r : Nat} {iv : Value} {m : RM}
theorem R_mix {w w' : World} {base : Nat} {v : Value} {xs : List Int} {iv1 : Value} {m1 : RM} (h : Kd.R (Kd.int .i64) 3 w base (fun _ => True) v xs) (hr : Ref B w r iv1 m1) (hk : Kept w w' (rfoot r iv1)) : Kd.R (Kd.int .i64) 3 w' base (fun _ => True) v xs := rR_deed h hr hk
theorem ref_app {w w1 : World} {base : Nat} {v : Value} {xs : List Int} (hr : Ref B w r iv m) (h : Kd.R (Kd.int .i64) 3 w base (fun _ => True) v xs) (hg : w.grownBy w1 v.ownBlock) : Ref B w1 r iv m := by
  refine ref_keep hr (fun k hf => hg.block k (hr.foot_lt k hf).2 (fun e => ?_))
  obtain ⟨inner, ho⟩ := Kd.R_own h
  obtain ⟨c, hc⟩ := own_tag ho k e.symm
  rcases hf with rfl | hf
  · obtain ⟨cur, c1, _⟩ := hr.top
    exact ne_of_tag c1 hc (by decide) rfl
  · obtain ⟨c2, hc2⟩ := own_tag hr.own k hf
    exact ne_of_tag hc2 hc (by decide) rfl
theorem RAfter.app {w' w1 : World} {m' : RM} {v : Value} {xs : List Int} (h : RAfter B w r iv m' w') (hB : B ≤ w.heap.size) (hr : Kd.R (Kd.int .i64) 3 w' w.heap.size (fun _ => True) v xs) (hg : w'.grownBy w1 v.ownBlock) (hb : Below w.heap.size w' w1) : RAfter B w r iv m' w1 := by
  obtain ⟨iv2, h1, hk, hb2, hw⟩ := h
  exact ⟨iv2, ref_app h1 hr hg, Kept.of_grown hg hk (fun k he => .inr (Kd.R_base hr k he)), hb2.trans (hb.mono hB), hw⟩
theorem rrest_calls (hr : Ref B w r iv m) (hB : B ≤ w.heap.size) (hl : m.its.length ≤ 90000) (h0 : 0 ≤ m.now) (h1 : m.now ≤ 90000) :
    Calls Try.prog 37 #[.pointer (some ⟨r, 0, none⟩)] w fun e w' => ∃ v, e = .returned v ∧ Kd.R (Kd.int .i64) 3 w' w.heap.size (fun _ => True) v (rrestTo m 3).2 ∧ RAfter B w r iv (rrestTo m 3).1 w' := by
  obtain ⟨cur2, c1, c2⟩ := hr.top
  have k0 : w.cell? ⟨r, 0, none⟩ = some (.bool true) := by rw [Go.Lib.cell_of_heap c1]; exact c2.k0
  have k1 : w.cell? ⟨r, 1, none⟩ = some (.int .i64 2) := by rw [Go.Lib.cell_of_heap c1]; exact c2.k1
  have HF := Aside0.mk (rrestTo_facts m)
  have HA0 : Aside0 (RAfter B w r iv (rrestTo m 0).1 w) := ⟨RAfter.refl hr⟩
  clear hr c1 c2
  go_enter Try.func37, Try.ntmps37
  go_wp2
  go_loopg [3, 6, 7] 3 (fun gg v3 v6 v7 wr => ∃ kk : Nat, kk ≤ 3 ∧ 3 - kk ≤ gg ∧ v6 = .int .i64 kk ∧ w.heap.size ≤ wr.heap.size ∧ Aside0 (RAfter B w r iv (rrestTo m kk).1 wr) ∧ Aside0 (Kd.R (Kd.int .i64) 3 wr w.heap.size (fun _ => True) v3 (rrestTo m kk).2))
  case atStart => exact ⟨0, by omega, by omega, rfl, Nat.le_refl _, HA0, ⟨Kd.R_nil _ _ _ _ _⟩⟩
  case round =>
    clear HA0 k0 k1
    obtain ⟨kk, hkk, hgg, rfl, hsz, HA, HR⟩ := hrel
    by_cases hlt : kk < 3
    · obtain ⟨ivk, hmk, hkk2, hbk, hwk⟩ := HA.out
      obtain ⟨f1, f2, f3, f4⟩ := HF.out kk
      have hsc := rtry_calls hmk (Nat.le_trans hB hsz) (by omega) (by omega) (by omega)
      obtain ⟨f5, f6, f7, f8⟩ := rtried_facts (rrestTo m kk).1
      have HSC := Aside0.mk hsc
      have HMK := Aside0.mk hmk
      have HKK := Aside0.mk hkk2
      have HBK := Aside0.mk hbk
      have HWK := Aside0.mk hwk
      have HSN : Aside0 (rrestTo m (kk + 1) = (rtried (rrestTo m kk).1, (rrestTo m kk).2 ++ rtryBack (rrestTo m kk).1)) := ⟨rfl⟩
      clear hsc hmk hkk2 hbk hwk HA
      generalize (rrestTo m kk).1 = mk at *
      generalize (rrestTo m kk).2 = bk at *
      have hbl : bk.length ≤ 100000 := by omega
      have hbb : (rtryBack mk).length ≤ 100000 := by omega
      generalize hYS : rtryBack mk = YS at *
      clear hYS f1 f2 f5 f6
      go_wp2_with (first
        | (go_at_call 50; refine (HSC.out).mono ?_; rintro e w' ⟨vs, rfl, p1, wv2, p2, p3, p4, p5⟩; obtain ⟨A1, c1, rfl⟩ := Kd.R_slice p1; have HR1 := Aside0.mk (rR_deed HR.out HMK.out p3); have HYC := Aside0.mk (Kd.R_reads' p1).2.2; have HM2 := Aside0.mk p2; have HK2 := Aside0.mk p3; have HB2 := Aside0.mk p4; have HP5 := Aside0.mk p5; have hsz2 := p3.1; clear p1 p2 p3 p4 p5)
        | ((with_reducible refine gate_builtin (b := .append) (xs := #[.tmp 42, .tmp 43]) rfl ?_); at_builtin; refine Kd.R_append_rows (Kd.int .i64) (w0 := w') w.heap.size rfl (.tmp 42) (.tmp 43) 41 3 (.int .i64 0) 8 rfl Try.underlying41 info3 rfl (by decide) (by omega) u3 bk YS _ _ _ (fun _ => True) (fun _ => False) rfl rfl HR1.out HYC.out (fun _ _ h => h) (fun _ h => h.elim) (fun _ _ => trivial) (Below.refl _ _) (Nat.le_trans hsz hsz2) (by omega) ?_; intro v1 wn ho hb hg hat; have HO := Aside0.mk ho; have HG := Aside0.mk hg; have HBN := Aside0.mk hb; have hszn := hg.size; clear ho hb hg hat))
      go_roundg (3 - (kk + 1))
      case measure => omega
      case rel =>
        refine ⟨kk + 1, by omega, by omega, by go_num, by omega, ⟨?_⟩, ⟨?_⟩⟩
        · rw [HSN.out]
          exact (RAfter.then_ HKK.out HBK.out HWK.out ⟨_, HM2.out, HK2.out, HB2.out, HP5.out⟩).app hB HR1.out HG.out HBN.out
        · rw [HSN.out]
          exact HO.out
    · have hkk2 : kk = 3 := by omega
      subst hkk2
      go_wp2
      go_ret
      exact ⟨_, rfl, HR.out, HA.out⟩
/-- An act's answer by the reference. -/
def rinD (m : RM) (t : Int) : RM × List Int × Int := if rbad m t = true then (m, [], 1) else (rinned m t.toNat, [], 0)
def routD (m : RM) (t : Int) : RM × List Int × Int := if rbad m t = true then (m, [], 1) else (routed m t.toNat, [], 0)
def rretireD (m : RM) (t a : Int) : RM × List Int × Int :=
  if (rbad m t || decide (a < 1)) = true then (m, [], 1) else if rhas m a = true then (m, [], 6) else (rtried (rlined m a t), rtryBack (rlined m a t), 0)
def rrestD (m : RM) : RM × List Int × Int := ((rrestTo m 3).1, (rrestTo m 3).2, 0)
def rbornE (a : Int) : Int := if a < 1 then 1 else 0
def rdeed (m : RM) (d t k a : Int) : RM × List Int × Int :=
  if d = 0 then rinD m t else if d = 1 then routD m t else if d = 2 then (m, [], rholdE m t k a) else if d = 3 then (m, [], rbornE a) else if d = 4 then rretireD m t a else if d = 5 then rrestD m else (m, [], 0)
def RTold (B : Nat) (w : World) (r : Nat) (iv : Value) (x : RM × List Int × Int) (e : Ending) (w' : World) : Prop :=
  ∃ v, e = .returned (.tuple #[v, .int .i64 x.2.2]) ∧ Kd.R (Kd.int .i64) 3 w' w.heap.size (fun _ => True) v x.2.1 ∧ RAfter B w r iv x.1 w'
theorem rtold_same (hr : Ref B w r iv m) (hB : B ≤ w.heap.size) (er : Int) (w' : World) (hb : Below w.heap.size w w') : RTold B w r iv (m, [], er) (.returned (.tuple #[.slice none 0 0, .int .i64 er])) w' :=
  ⟨_, rfl, Kd.R_nil _ _ _ _ _, RAfter.grow hr hB hb⟩
theorem rin_told (hr : Ref B w r iv m) (hB : B ≤ w.heap.size) (t : Int) : Calls Try.prog 32 #[.pointer (some ⟨r, 0, none⟩), .int .i64 t] w (RTold B w r iv (rinD m t)) := by
  unfold rinD
  cases h : rbad m t with
  | true =>
    refine (rin_bad hr t h).mono ?_
    rintro e w' ⟨rfl, rfl⟩
    exact rtold_same hr hB 1 _ (Below.refl _ _)
  | false =>
    refine (rin_good hr t h).mono ?_
    rintro e w' ⟨rfl, h1⟩
    exact ⟨_, rfl, Kd.R_nil _ _ _ _ _, h1⟩
theorem rout_told (hr : Ref B w r iv m) (hB : B ≤ w.heap.size) (hl : m.its.length ≤ 90000) (t : Int) : Calls Try.prog 33 #[.pointer (some ⟨r, 0, none⟩), .int .i64 t] w (RTold B w r iv (routD m t)) := by
  unfold routD
  cases h : rbad m t with
  | true =>
    refine (rout_bad hr t h).mono ?_
    rintro e w' ⟨rfl, rfl⟩
    exact rtold_same hr hB 1 _ (Below.refl _ _)
  | false =>
    refine (rout_good hr (by omega) t h).mono ?_
    rintro e w' ⟨rfl, h1⟩
    exact ⟨_, rfl, Kd.R_nil _ _ _ _ _, h1⟩
theorem rhold_told (hr : Ref B w r iv m) (hB : B ≤ w.heap.size) (t k a : Int) : Calls Try.prog 34 #[.pointer (some ⟨r, 0, none⟩), .int .i64 t, .int .i64 k, .int .i64 a] w (RTold B w r iv (m, [], rholdE m t k a)) := by
  unfold rholdE
  by_cases h : (rbad m t || decide (k < 0) || decide (3 ≤ k) || decide (a < 0)) = true
  · rw [if_pos h]
    refine (rhold_bad hr t k a h).mono ?_
    rintro e w' ⟨rfl, rfl⟩
    exact rtold_same hr hB 1 _ (Below.refl _ _)
  · rw [if_neg h]
    simp only [Bool.or_eq_true, decide_eq_true_eq, not_or] at h
    obtain ⟨⟨⟨g1, g2⟩, g3⟩, g4⟩ := h
    refine (rhold_good hr t k a (by simpa using g1) (by omega) (by omega) (by omega)).mono ?_
    rintro e w' ⟨rfl, h1⟩
    exact ⟨_, rfl, Kd.R_nil _ _ _ _ _, h1⟩
theorem rretire_told (hr : Ref B w r iv m) (hB : B ≤ w.heap.size) (hl : m.its.length ≤ 90000) (h0 : 0 ≤ m.now) (h1 : m.now ≤ 90000) (t a : Int) : Calls Try.prog 36 #[.pointer (some ⟨r, 0, none⟩), .int .i64 t, .int .i64 a] w (RTold B w r iv (rretireD m t a)) := by
  unfold rretireD
  by_cases h : (rbad m t || decide (a < 1)) = true
  · rw [if_pos h]
    refine (rretire_no hr t a h).mono ?_
    rintro e w' ⟨rfl, rfl⟩
    exact rtold_same hr hB _ _ (Below.refl _ _)
  · rw [if_neg h]
    simp only [Bool.or_eq_true, decide_eq_true_eq, not_or] at h
    by_cases h3 : rhas m a = true
    · rw [if_pos h3]
      refine (rretire_dup hr (by omega) t a (by simpa using h.1) h.2 h3).mono ?_
      rintro e w' ⟨rfl, rfl⟩
      exact rtold_same hr hB _ _ (Below.refl _ _)
    · rw [if_neg h3]
      exact rretire_add hr hB hl h0 (by omega) t a (by simpa using h.1) h.2 (Bool.eq_false_iff.2 h3)
theorem rrest_told (hr : Ref B w r iv m) (hB : B ≤ w.heap.size) (hl : m.its.length ≤ 90000) (h0 : 0 ≤ m.now) (h1 : m.now ≤ 90000) :
    Calls Try.prog 37 #[.pointer (some ⟨r, 0, none⟩)] w fun e w' => ∃ v, e = .returned v ∧ RTold B w r iv (rrestD m) (.returned (.tuple #[v, .int .i64 0])) w' := by
  refine (rrest_calls hr hB hl h0 h1).mono ?_
  rintro e w' ⟨v, rfl, hr, ha⟩
  exact ⟨v, rfl, v, rfl, hr, ha⟩
theorem RTold.up {w0 : World} {x : RM × List Int × Int} {e : Ending} {w' : World} (hb : Below w0.heap.size w0 w) (hB : B ≤ w0.heap.size) (h : RTold B w r iv x e w') : RTold B w0 r iv x e w' := by
  obtain ⟨v, he, hr, ha⟩ := h
  exact ⟨v, he, Kd.R_lower hr hb.size, RAfter.then_ (Kept.of_below hb _) (hb.mono hB) (fun k hk => .inl hk) ha⟩
theorem told_calls (hr : Ref B w r iv m) (hB : B ≤ w.heap.size) (hl : m.its.length ≤ 90000) (h0 : 0 ≤ m.now) (h1 : m.now ≤ 90000) (d t k a : Int) :
    Calls Try.prog 17 #[.pointer (some ⟨r, 0, none⟩), .agg #[.int .i64 d, .int .i64 t, .int .i64 k, .int .i64 a]] w (RTold B w r iv (rdeed m d t k a)) := by
  have hbe := (Below.refl w.heap.size w).alloc (Nat.le_refl _) (.cells #[.int .i64 d, .int .i64 t, .int .i64 k, .int .i64 a] 45 (0, 0))
  have hr2 := hr.grow hbe
  have hB2 : B ≤ (w.alloc (.cells #[.int .i64 d, .int .i64 t, .int .i64 k, .int .i64 a] 45 (0, 0))).heap.size := Nat.le_trans hB hbe.size
  have HBE := Aside0.mk hbe
  unfold rdeed
  by_cases g0 : d = 0
  · subst g0
    have hc := Aside0.mk (rin_told hr2 hB2 t)
    clear hr hr2 hbe
    rw [if_pos rfl]
    go_enter Try.func17, Try.ntmps17
    go_wp2_with (go_at_call 32; refine (hc.out).mono ?_; rintro e w' ht; have HT := Aside0.mk (RTold.up HBE.out hB ht); obtain ⟨v, rfl, _, _⟩ := ht)
    go_ret2
    exact HT.out
  · rw [if_neg g0]
    by_cases g1 : d = 1
    · subst g1
      rw [if_pos rfl]
      have hc := Aside0.mk (rout_told hr2 hB2 hl t)
      clear hr hr2 hbe
      go_enter Try.func17, Try.ntmps17
      go_wp2_with (go_at_call 33; refine (hc.out).mono ?_; rintro e w' ht; have HT := Aside0.mk (RTold.up HBE.out hB ht); obtain ⟨v, rfl, _, _⟩ := ht)
      go_ret2
      exact HT.out
    · rw [if_neg g1]
      by_cases g2 : d = 2
      · subst g2
        rw [if_pos rfl]
        have hc := Aside0.mk (rhold_told hr2 hB2 t k a)
        clear hr hr2 hbe
        go_enter Try.func17, Try.ntmps17
        go_wp2_with (go_at_call 34; refine (hc.out).mono ?_; rintro e w' ht; have HT := Aside0.mk (RTold.up HBE.out hB ht); obtain ⟨v, rfl, _, _⟩ := ht)
        go_ret2
        exact HT.out
      · rw [if_neg g2]
        by_cases g3 : d = 3
        · subst g3
          rw [if_pos rfl]
          have hc := Aside0.mk (rbears_calls hr2 a)
          have HT := Aside0.mk (RTold.up hbe hB (rtold_same hr2 hB2 (rbornE a) _ (Below.refl _ _)))
          have he : (if a < 1 then (1 : Int) else 0) = rbornE a := rfl
          rw [he] at hc
          clear he
          generalize rbornE a = er at hc HT ⊢
          clear hr hr2 hbe
          go_enter Try.func17, Try.ntmps17
          go_wp2_with (go_at_call 35; refine (hc.out).mono ?_; rintro e w' ⟨rfl, rfl⟩)
          go_ret2
          exact HT.out
        · rw [if_neg g3]
          by_cases g4 : d = 4
          · subst g4
            rw [if_pos rfl]
            have hc := Aside0.mk (rretire_told hr2 hB2 hl h0 h1 t a)
            clear hr hr2 hbe
            go_enter Try.func17, Try.ntmps17
            go_wp2_with (go_at_call 36; refine (hc.out).mono ?_; rintro e w' ht; have HT := Aside0.mk (RTold.up HBE.out hB ht); obtain ⟨v, rfl, _, _⟩ := ht)
            go_ret2
            exact HT.out
          · rw [if_neg g4]
            by_cases g5 : d = 5
            · subst g5
              rw [if_pos rfl]
              have hc := Aside0.mk (rrest_told hr2 hB2 hl h0 h1)
              clear hr hr2 hbe
              go_enter Try.func17, Try.ntmps17
              go_wp2_with (go_at_call 37; refine (hc.out).mono ?_; rintro e w' ⟨v, rfl, ht⟩; have HT := Aside0.mk (RTold.up HBE.out hB ht); clear ht)
              go_ret2
              exact HT.out
            · rw [if_neg g5]
              have HT := Aside0.mk (rtold_same hr hB 0 _ hbe)
              have f0 : (d == 0) = false := by simpa using g0
              have f1 : (d == 1) = false := by simpa using g1
              have f2 : (d == 2) = false := by simpa using g2
              have f3 : (d == 3) = false := by simpa using g3
              have f4 : (d == 4) = false := by simpa using g4
              have f5 : (d == 5) = false := by simpa using g5
              clear hr hr2 hbe g0 g1 g2 g3 g4 g5
              go_enter Try.func17, Try.ntmps17
              go_wp2
              go_ret2
              exact HT.out
end
end Go.Proofs.Ytcfodmnpmjkpbaa.Ep
