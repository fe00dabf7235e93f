/- The walk of EpochKeeps: plain lemmas; no condition. -/
import Derived.Test.YtcfodmnpmjkpbaaGF
namespace Go.Proofs.Ytcfodmnpmjkpbaa.Ep
open Go.RowKit Go.Proofs.YtcfodmnpmjkpbaaW.PrintWords Go.Proofs.YtcfodmnpmjkpbaaW.PrintLast Go.Proofs.YtcfodmnpmjkpbaaW.PrintMore
set_option linter.unusedVariables false
set_option linter.unusedSimpArgs false
set_option maxHeartbeats 8000000
set_option maxRecDepth 100000
theorem keep_facts {t j : Nat} {m : EM} {e a : Int} (ds : List DD) (h : Kept0 m t e a) (hl : Low m j) : ∀ k, k ≤ ds.length → Kept0 (farTo t m ds k) t e a ∧ Low (farTo t m ds k) (j + k) ∧ (farTo t m ds k).th.length = m.th.length := by
  intro k
  induction k with
  | zero => intro _; exact ⟨h, hl, rfl⟩
  | succ k ih =>
    intro hk
    obtain ⟨g1, g2, g3⟩ := ih (by omega)
    rw [farTo_succ _ _ _ _ (by omega)]
    unfold farStep
    split
    · obtain ⟨l1, l2, l3⟩ := g2
      exact ⟨g1, ⟨by omega, l2, by omega⟩, g3⟩
    · rename_i hn
      obtain ⟨p1, p2⟩ := deed_low g2 ds[k]!.d ds[k]!.t ds[k]!.k ds[k]!.a
      exact ⟨(kept_deed g1 _ _ _ _ hn).1, p1, p2.trans g3⟩
theorem contains_no {l : List Int} {a : Int} (h : a ∉ l) : l.contains a = false := by
  rw [Bool.eq_false_iff]
  intro hc
  exact h (List.contains_iff_mem.1 hc)
theorem tryBack_len (m : EM) : (tryBack m).length ≤ m.ws.length := by have := (tried_facts m).2.1; omega
theorem back_len (m : EM) (d t k a : Int) : (deed m d t k a).2.1.length ≤ m.ws.length + 1 := by
  unfold deed
  split
  · unfold inD; split <;> simp
  split
  · unfold outD; split <;> simp
  split
  · simp
  split
  · simp
  split
  · unfold retireD
    split
    · simp
    split
    · simp
    · have := tryBack_len (lined m a)
      have e : (lined m a).ws.length = m.ws.length + 1 := by simp [lined]
      show (tryBack (lined m a)).length ≤ _
      omega
  split
  · show (restBack m).length ≤ _
    unfold restBack
    rw [List.length_append, List.length_append]
    have h1 := (tried_facts m).2.1
    have h2 := (tried_facts (tried m)).2.1
    have h3 := (tried_facts (tried (tried m))).2.1
    omega
  · simp
/-- The answers of Retire. -/
theorem retire_cases (m : EM) (t a : Int) : (∃ er : Int, retireD m t a = (m, [], er) ∧ (er != 0) = true) ∨ ((addrs m).contains a = false ∧ ¬ a < 1 ∧ retireD m t a = (tried (lined m a), tryBack (lined m a), 0)) := by
  unfold retireD
  by_cases h : (bad m t || decide (a < 1)) = true
  · rw [if_pos h]
    exact .inl ⟨1, rfl, by decide⟩
  · rw [if_neg h]
    by_cases h2 : (addrs m).contains a = true
    · rw [if_pos h2]
      exact .inl ⟨6, rfl, by decide⟩
    · rw [if_neg h2]
      simp only [Bool.or_eq_true, decide_eq_true_eq, not_or] at h
      exact .inr ⟨Bool.eq_false_iff.2 h2, h.2, rfl⟩
theorem keeps_walk (t u v a : Int) (A A2 : Option Addr) (c c2 : Nat) (ds es : List DD) (w : World) (hd : DeedsAt w A ds) (he : DeedsAt w A2 es) :
    Calls Try.prog 5 #[.agg #[.int .i64 t, .slice A ds.length c, .int .i64 u, .int .i64 v, .int .i64 a, .slice A2 es.length c2]] w fun e w' => e = .returned (.bool true) ∧ Below w.heap.size w w' := by
  have hb0 := (Below.refl w.heap.size w).alloc (Nat.le_refl _) (.cells #[.int .i64 t, .slice A ds.length c, .int .i64 u, .int .i64 v, .int .i64 a, .slice A2 es.length c2] 53 (0, 0))
  have HB0 := Aside0.mk hb0
  have HD := Aside0.mk hd
  have HE := Aside0.mk he
  clear hb0 hd he
  go_enter Try.func5, Try.ntmps5
  go_wp2
  go_quiet (fail)
  go_wp2_with (first
    | (go_at_call 12; refine (awake_calls _).mono ?_; rintro e w1 ⟨rfl, hb⟩; have B1 := Aside0.mk (btrans HB0.out (btrans (pw_below_drewN (Below.refl _ _) _) hb)); clear hb)
    | (go_at_call 22; refine (made_calls t A c ds w1 (HD.out.below B1.out)).mono ?_; rintro e w2 ⟨n, g, tv, wv, iv, cur, hn1, hn4, rfl, hm, hrb, ho, hb⟩; have M2 := Aside0.mk hm; have HRB := Aside0.mk hrb; have B2 := Aside0.mk (btrans B1.out hb); have hone : Aside0 (cur.all (·.oneCell') = true) := (by constructor; obtain ⟨A5, c5, hiv⟩ := own_form ho; exact hrb.one (by rw [hiv]; rfl)); clear hm hrb ho hb)
    | ((with_reducible refine gate_ (.alloc 38) rfl ?_); refine wpList_alloc38 rfl rfl ?_; intro W3 hz hb hs; have HZ := Aside0.mk hz; have M3 := Aside0.mk (M2.out.grow hb); have B3 := Aside0.mk (btrans B2.out hb); have hsz2 := B2.out.size; clear hz hb hs)
    | ((with_reducible refine gate_ (.store 38 (.tmp 10) (.tmp 40)) rfl ?_); refine wpList_store_whole rfl 38 (.tmp 10) (.tmp 40) rfl w2.heap.size cur zero30 38 rfl rfl HZ.out HRB.out.size.symm (by rw [info38, HRB.out.size]) hone.out ?_; intro W4 h3 far e1 e2 e3 e4; have M4 := Aside0.mk (man_keep M3.out (w' := W4) (fun k hk => far k (by have := (M2.out.foot_lt k hk).2; omega))); have B4 := Aside0.mk (below_store B3.out hsz2 far e1 e2 e3 e4); clear h3 far e1 e2 e3 e4 M3 B3 HZ M2 hone HRB))
  obtain ⟨hpl, pl4⟩ := playTo_low n ds (min ds.length 150) (Nat.min_le_left _ _)
  have hgood := good_play n ds (min ds.length 150) (Nat.min_le_left _ _)
  have hK : min ds.length 150 ≤ 150 := Nat.min_le_right _ _
  generalize min ds.length 150 = K at *
  generalize playTo (newM n) ds K = m0 at *
  obtain ⟨ku, hku, eku⟩ := mod_at u n hn1 hn4
  have hin := in_at M4.out ku (by omega)
  have hth : (inned m0 ku).th.length = n := by simp [inned, pl4]
  have hlow : Low (inned m0 ku) K := hpl
  rw [← eku] at hin
  have EKU := Aside0.mk eku
  have HIN := Aside0.mk hin
  have hBw : w.heap.size ≤ w1.heap.size := B1.out.size
  have hgw : w1.heap.size ≤ W4.heap.size := by have := M4.out.bg; have := blk_lt M4.out.top; omega
  have hl1 : (inned m0 ku).ws.length ≤ 150 := by have := hlow.1; omega
  have hl2 : 0 ≤ (inned m0 ku).ep := hlow.2.1
  have hl3 : (inned m0 ku).ep ≤ 450 := by have := hlow.2.2; omega
  have hks := fun hc => kept_start (a := a) (t := ku) (by rw [pl4]; exact hku) hpl.2.1 hgood hc
  have HKS := Aside0.mk hks
  have hep0 : m0.ep = (inned m0 ku).ep := rfl
  have haddr : addrs (inned m0 ku) = addrs m0 := rfl
  have HADDR := Aside0.mk haddr
  have HTH := Aside0.mk hth
  have HLOW := Aside0.mk hlow
  have hcases := retire_cases (inned m0 ku) (wrap64 ((IntKind.u64.wrap v).tmod (n : Int))) a
  have HCA := Aside0.mk hcases
  clear hin hth eku hpl hgood hks hep0 haddr hlow hcases
  generalize wrap64 ((IntKind.u64.wrap u).tmod (n : Int)) = T at *
  obtain ⟨er, hrd, her⟩ | ⟨hc1, hc2, hrd⟩ := HCA.out
  · have HRD := Aside0.mk hrd
    clear hrd HCA HKS B1 B2
    go_wp2_with (first
      | (go_at_call 23; refine (HIN.out).mono ?_; rintro e w5 ⟨rfl, wv5, hm, hk, hb, _⟩; have M5 := Aside0.mk hm; have B5 := Aside0.mk (B4.out.trans (hb.mono hBw)); have hsz5 := hk.1; clear hm hk hb M4 B4)
      | (go_at_call 24; refine (retire_as M5.out (Nat.le_trans hgw hsz5) (by omega) hl2 (by omega) HRD.out).mono ?_; rintro e w6 ⟨v6, rfl, hr, wv6, hm, hk, hb, _⟩; obtain ⟨A6, c6, rfl⟩ := Kd.R_slice hr; have B6 := Aside0.mk (B5.out.trans (hb.mono hBw)); clear hr hm hk hb M5 B5))
    go_ret
    exact ⟨rfl, B6.out⟩
  · rw [HADDR.out] at hc1
    obtain ⟨hk0, hnb⟩ := HKS.out hc1
    obtain ⟨hlw, hth1⟩ := deed_low HLOW.out 4 (wrap64 ((IntKind.u64.wrap v).tmod (n : Int))) 0 a
    have hdeed : deed (inned m0 ku) 4 (wrap64 ((IntKind.u64.wrap v).tmod (n : Int))) 0 a = retireD (inned m0 ku) (wrap64 ((IntKind.u64.wrap v).tmod (n : Int))) a := by unfold deed; rw [if_neg (by decide), if_neg (by decide), if_neg (by decide), if_neg (by decide), if_pos rfl]
    rw [hdeed, hrd] at hlw hth1
    simp only at hlw hth1
    have hbc := contains_no hnb
    have hbl : (tryBack (lined (inned m0 ku) a)).length ≤ 1000000 := by
      obtain ⟨_, f2, _, _⟩ := tried_facts (lined (inned m0 ku) a)
      have : (lined (inned m0 ku) a).ws.length = (inned m0 ku).ws.length + 1 := by simp [lined]
      omega
    have HF := Aside0.mk (keep_facts es hk0 hlw)
    have HFS := Aside0.mk (farTo_succ ku (tried (lined (inned m0 ku) a)) es)
    have HRD := Aside0.mk hrd
    have hth2 : (tried (lined (inned m0 ku) a)).th.length = n := hth1.trans HTH.out
    clear hrd HCA HKS B1 B2 hk0 hnb hlw hth1 hdeed hc1 hc2
    generalize tried (lined (inned m0 ku) a) = m1 at *
    generalize tryBack (lined (inned m0 ku) a) = BK at *
    have HBC := Aside0.mk hbc
    clear hbc
    go_wp2_with (first
      | (go_at_call 23; refine (HIN.out).mono ?_; rintro e w5 ⟨rfl, wv5, hm, hk, hb, _⟩; have M5 := Aside0.mk hm; have B5 := Aside0.mk (B4.out.trans (hb.mono hBw)); have hsz5 := hk.1; clear hm hk hb M4 B4)
      | (go_at_call 24; refine (retire_as M5.out (Nat.le_trans hgw hsz5) (by omega) hl2 (by omega) HRD.out).mono ?_; rintro e w6 ⟨v6, rfl, hr, wv6, hm, hk, hb, _⟩; obtain ⟨A6, c6, rfl⟩ := Kd.R_slice hr; have R6 := Aside0.mk hr; have M6 := Aside0.mk hm; have B6 := Aside0.mk (B5.out.trans (hb.mono hBw)); have hsz6 := hk.1; clear hr hm hk hb M5 B5)
      | (go_at_call 25; refine (hasL_calls A6 c6 BK a w6 (reads_R R6.out) hbl).mono ?_; rw [HBC.out]; rintro e w7 ⟨rfl, hw⟩; rw [hw]; clear hw))
    clear HIN R6
    go_loopg [17, 18, 19, 20] (min es.length 150) (fun gg v17 v18 v19 v20 wr => ∃ (kk : Nat) (wvk : Value), kk ≤ min es.length 150 ∧ min es.length 150 - kk ≤ gg ∧ v17 = .int .i64 kk ∧ Aside0 (Man w1.heap.size wr g tv wvk (farTo ku m1 es kk)) ∧ Aside0 (Below w.heap.size w wr))
    case atStart => exact ⟨0, _, Nat.zero_le _, by omega, rfl, M6, B6⟩
    case round =>
      clear M6 B6
      obtain ⟨kk, wvk, hkk, hgg, rfl, M5, B5⟩ := hrel
      have hw1r : w1.heap.size ≤ wr.heap.size := by have := M5.out.bg; have := blk_lt M5.out.top; omega
      obtain ⟨g1, ⟨g2, g3, g4⟩, g5⟩ := HF.out kk (by omega)
      by_cases hlt : kk < min es.length 150
      · have hl1 : kk < es.length := by omega
        have hl2 : kk < 150 := by omega
        have hl2i : (kk : Int) < 150 := by omega
        obtain ⟨ad, rfl, e1, e2, e3, e4⟩ := HE.out kk hl1
        rw [add_field ad (kk * 4) 1 (by decide)] at e2
        rw [add_field ad (kk * 4) 2 (by decide)] at e3
        rw [add_field ad (kk * 4) 3 (by decide)] at e4
        replace e1 := (B5.out.cell (World.block_lt_of_cell? w _ e1)).trans e1
        replace e2 := (B5.out.cell (World.block_lt_of_cell? w _ e2)).trans e2
        replace e3 := (B5.out.cell (World.block_lt_of_cell? w _ e3)).trans e3
        replace e4 := (B5.out.cell (World.block_lt_of_cell? w _ e4)).trans e4
        have hs := HFS.out kk hl1
        generalize es[kk]! = x at *
        generalize hS : farTo ku m1 es kk = S at *
        generalize hS' : farTo ku m1 es (kk + 1) = S' at *
        have hbe := (Below.refl wr.heap.size wr).alloc (Nat.le_refl _) (.cells #[.int .i64 x.d, .int .i64 x.t, .int .i64 x.k, .int .i64 x.a] 45 (0, 0))
        have M6 := Aside0.mk (M5.out.grow hbe)
        have B6 := Aside0.mk (B5.out.trans (hbe.mono B5.out.size))
        have hbz := hbe.size
        have H1 := Aside0.mk hs
        have HG1 := Aside0.mk g1
        have HSS := Aside0.mk hS'
        clear hbe hs g1 hS hS'
        by_cases hx : x.t = T ∧ x.d ≤ 1
        · obtain ⟨hx1, hx2⟩ := hx
          have hq : (x.t == T) = true := by simp [hx1]
          have hq2 : decide (x.d ≤ 1) = true := by simpa using hx2
          have hsame : Aside0 (S' = S) := ⟨by rw [H1.out]; unfold farStep; rw [if_pos ⟨hx1.trans EKU.out, hx2⟩]⟩
          clear hx1 hx2
          go_wp2
          go_roundg (min es.length 150 - (kk + 1))
          case measure => omega
          case rel => exact ⟨kk + 1, _, by omega, by omega, by go_num, by rw [HSS.out, hsame.out]; exact M6, B6⟩
        · have hn : ¬ (x.t = (ku : Int) ∧ x.d ≤ 1) := fun h => hx ⟨h.1.trans EKU.out.symm, h.2⟩
          have hst : S' = (deed S x.d x.t x.k x.a).1 := by rw [H1.out]; unfold farStep; rw [if_neg hn]; rfl
          have hnb := contains_no (kept_deed HG1.out x.d x.t x.k x.a hn).2
          have HST := Aside0.mk hst
          have HNB := Aside0.mk hnb
          have hdo := do_calls M6.out (Nat.le_trans hw1r hbz) (by omega) (by omega) g3 (by omega) x.d x.t x.k x.a
          have HDO := Aside0.mk hdo
          have hbl2 : (deed S x.d x.t x.k x.a).2.1.length ≤ 1000000 := Nat.le_trans (back_len S x.d x.t x.k x.a) (by omega)
          clear hst hdo hn hnb
          by_cases hq1 : x.t = T
          · have hq : (x.t == T) = true := by simp [hq1]
            have hq2 : decide (x.d ≤ 1) = false := decide_eq_false (fun h => hx ⟨hq1, h⟩)
            clear hx hq1
            go_wp2_with (first
              | (go_at_call 16; refine (HDO.out).mono ?_; rintro e w7 ⟨v7, rfl, hr, wv7, hm, hk, hb, _⟩; obtain ⟨A7, c7, rfl⟩ := Kd.R_slice hr; have R7 := Aside0.mk hr; rw [← HST.out] at hm; have M7 := Aside0.mk hm; have B7 := Aside0.mk (B6.out.trans (hb.mono hBw)); clear hr hm hk hb)
              | (go_at_call 25; refine (hasL_calls A7 c7 _ a w7 (reads_R R7.out) hbl2).mono ?_; rw [HNB.out]; rintro e w8 ⟨rfl, hw⟩; rw [hw]; clear hw))
            go_roundg (min es.length 150 - (kk + 1))
            case measure => omega
            case rel => exact ⟨kk + 1, _, by omega, by omega, by go_num, by rw [HSS.out]; exact M7, B7⟩
          · have hq : (x.t == T) = false := by simpa using hq1
            clear hx hq1
            go_wp2_with (first
              | (go_at_call 16; refine (HDO.out).mono ?_; rintro e w7 ⟨v7, rfl, hr, wv7, hm, hk, hb, _⟩; obtain ⟨A7, c7, rfl⟩ := Kd.R_slice hr; have R7 := Aside0.mk hr; rw [← HST.out] at hm; have M7 := Aside0.mk hm; have B7 := Aside0.mk (B6.out.trans (hb.mono hBw)); clear hr hm hk hb)
              | (go_at_call 25; refine (hasL_calls A7 c7 _ a w7 (reads_R R7.out) hbl2).mono ?_; rw [HNB.out]; rintro e w8 ⟨rfl, hw⟩; rw [hw]; clear hw))
            go_roundg (min es.length 150 - (kk + 1))
            case measure => omega
            case rel => exact ⟨kk + 1, _, by omega, by omega, by go_num, by rw [HSS.out]; exact M7, B7⟩
      · have hma := mem_addrs g1
        have HMA := Aside0.mk hma
        have hwa : (farTo ku m1 es kk).ws.map (·.1) = addrs (farTo ku m1 es kk) := rfl
        have hal : (addrs (farTo ku m1 es kk)).length ≤ 1000000 := by unfold addrs; rw [List.length_map]; omega
        have HWT := Aside0.mk (waiting_calls M5.out (by rw [g5]; omega) (by omega))
        have HWA := Aside0.mk hwa
        clear hma hwa
        generalize farTo ku m1 es kk = S at *
        have hcase : (kk < es.length ∧ ¬ (kk < 150)) ∨ ¬ (kk < es.length) := by omega
        rcases hcase with ⟨h1, h2⟩ | h1
        all_goals
          go_wp2_with (first
            | (go_at_call 19; refine (HWT.out).mono ?_; rintro e w8 ⟨v8, rfl, hr, hb⟩; rw [HWA.out] at hr; obtain ⟨A8, c8, rfl⟩ := Kd.R_slice hr; have R8 := Aside0.mk hr; have B8 := Aside0.mk (B5.out.trans (hb.mono B5.out.size)); clear hr hb)
            | (go_at_call 25; refine (hasL_calls A8 c8 _ a w8 (reads_R R8.out) hal).mono ?_; rw [HMA.out]; rintro e w9 ⟨rfl, hw⟩; rw [hw]; clear hw))
          go_ret
          exact ⟨rfl, B8.out⟩
end Go.Proofs.Ytcfodmnpmjkpbaa.Ep
