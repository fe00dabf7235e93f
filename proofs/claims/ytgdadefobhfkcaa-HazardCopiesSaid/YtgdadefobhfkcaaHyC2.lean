/- The walk of HazardCopies: plain lemmas; no condition. -/
import Derived.Test.YtgdadefobhfkcaaHyC1
import Derived.Test.YtgdadefobhfkcaaHyR
import Derived.Test.YtgdadefobhfkcaaHyQ
namespace Go.Proofs.Ytgdadefobhfkcaa.Hy
open Go.RowKit Go.Proofs.YtgdadefobhfkcaaW.PrintWords Go.Proofs.YtgdadefobhfkcaaW.PrintLast Go.Proofs.YtgdadefobhfkcaaW.PrintMore
set_option linter.unusedVariables false
set_option linter.unusedSimpArgs false
set_option maxHeartbeats 8000000
set_option maxRecDepth 100000
theorem parts_len {l0 back l1 : List Int} (h : Parts l0 back l1) : back.length ≤ l0.length := nodup_le _ _ h.nd h.mem
theorem copies_long (t : Int) (A A2 : Option Addr) (c c2 : Nat) (ds es : List DD) (w : World) (hl : 200 < ds.length ∨ 200 < es.length) :
    Calls Try.prog 7 #[.int .i64 t, .slice A ds.length c, .slice A2 es.length c2] w fun e w' => e = .returned (.bool true) ∧ Below w.heap.size w w' := by
  have hcase : 200 < ds.length ∨ (ds.length ≤ 200 ∧ 200 < es.length) := by omega
  rcases hcase with h | ⟨h, h2⟩
  all_goals
    go_enter Try.func7, Try.ntmps7
    go_wp2_with (go_at_call 9; refine (sane_calls _).mono ?_; rintro e w5 ⟨rfl, hb⟩; have B5 := Aside0.mk hb; clear hb)
    go_ret
    exact ⟨rfl, B5.out⟩
theorem copies_none (t : Int) (A A2 : Option Addr) (c c2 : Nat) (ds es : List DD) (w : World) (hl : ds.length ≤ 200) (hl2 : es.length ≤ 200) (h : t < 1 ∨ 4 < t) :
    Calls Try.prog 7 #[.int .i64 t, .slice A ds.length c, .slice A2 es.length c2] w fun e w' => e = .returned (.bool true) ∧ Below w.heap.size w w' := by
  have HN := Aside0.mk (played_none t A c ds w h)
  go_enter Try.func7, Try.ntmps7
  go_wp2_with (first
    | (go_at_call 22; refine (HN.out).mono ?_; rintro e w1 ⟨rfl, hw⟩; rw [hw]; clear hw)
    | (go_at_call 9; refine (sane_calls _).mono ?_; rintro e w5 ⟨rfl, hb⟩; have B5 := Aside0.mk hb; clear hb))
  go_ret
  exact ⟨rfl, B5.out⟩
theorem copies_walk (n : Nat) (A A2 : Option Addr) (c c2 : Nat) (ds es : List DD) (w : World) (hd : DeedsAt w A ds) (he : DeedsAt w A2 es) (h1 : 1 ≤ n) (h4 : n ≤ 4) (hl : ds.length ≤ 200) (hl2 : es.length ≤ 200) :
    Calls Try.prog 7 #[.int .i64 n, .slice A ds.length c, .slice A2 es.length c2] w fun e w' => e = .returned (.bool true) ∧ Below w.heap.size w w' := by
  have hgood := play_good n ds ds.length (Nat.le_refl _)
  have HP := Aside0.mk (fun W (hD : DeedsAt W A ds) => played_calls n A c ds W hD h1 h4 hl)
  have HD := Aside0.mk hd
  have HE := Aside0.mk he
  obtain ⟨S, hS⟩ : ∃ S, S = playTo (newM n) ds ds.length := ⟨_, rfl⟩
  rw [← hS] at hgood HP
  obtain ⟨hg, hn⟩ := hgood
  have HS := Aside0.mk (playTo_succ S es)
  have HG := Aside0.mk (play_from hg es)
  have hfew := few hg (by omega)
  have hn0 : 0 < S.n := by omega
  have hwl : (S.ws.map (·.2)).length ≤ 48 := by rw [List.length_map]; exact hfew
  obtain ⟨LL, hLL⟩ : ∃ LL, LL = S.ws.map (·.2) := ⟨_, rfl⟩
  have HLL := Aside0.mk hLL
  rw [← hLL] at hwl
  have hwl2 : LL.length ≤ 1000000 := by omega
  clear hd he hS hLL
  have tok1 : True := trivial
  go_enter Try.func7, Try.ntmps7
  go_wp2_with (first
    | (go_at_call 22; have _t := tok1; clear _t tok1; refine (HP.out w HD.out).mono ?_; rintro e w1 ⟨g, Ag, wv, rfl, hm, hb⟩; have M1 := Aside0.mk hm; have B1 := Aside0.mk hb; have hsz1 := hb.size; clear hm hb; have tok2 : True := trivial)
    | (go_at_call 23; refine (copy_calls M1.out hn0 (by omega)).mono ?_; rintro e w2 ⟨g2, Ag2, wv2, rfl, hm, hb⟩; have X2 := Aside0.mk hm; have M2 := Aside0.mk (M1.out.grow hb); have B2 := Aside0.mk (B1.out.trans (hb.mono B1.out.size)); have hsz2 := hb.size; clear hm hb)
    | (go_at_call 22; have _t := tok2; clear _t tok2; refine (HP.out w2 (HD.out.below B2.out)).mono ?_; rintro e w3 ⟨g3, Ag3, wv3, rfl, hm, hb⟩; have Y3 := Aside0.mk hm; have X3 := Aside0.mk (X2.out.grow hb); have M3 := Aside0.mk (M2.out.grow hb); have B3 := Aside0.mk (B2.out.trans (hb.mono B2.out.size)); have hsz3 := hb.size; have DMX := Aside0.mk (apart_new M1.out X2.out (Nat.le_refl _)); have DMY := Aside0.mk (apart_new M2.out Y3.out (Nat.le_refl _)); have DXY := Aside0.mk (apart_new X2.out Y3.out (Nat.le_refl _)); clear hm hb M1 M2 X2 B1 B2)
    | (go_at_call 13; refine (waiting_calls M3.out (by omega)).mono ?_; rintro e w4 ⟨v4, rfl, hr, hb⟩; rw [← HLL.out] at hr; obtain ⟨A4, c4, rfl⟩ := Kd.R_slice hr; have Q4 := Aside0.mk hr; have Y4 := Aside0.mk (Y3.out.grow hb); have X4 := Aside0.mk (X3.out.grow hb); have M4 := Aside0.mk (M3.out.grow hb); have B4 := Aside0.mk (B3.out.trans (hb.mono B3.out.size)); have hsz4 := hb.size; clear hr hb M3 X3 Y3 B3))
  have MF := Aside0.mk (fun k hk => (M4.out.foot_lt k hk).2)
  go_loopg [11, 12, 13, 14, 15] es.length (fun gg v11 v12 v13 v14 v15 wr => ∃ (kk : Nat) (wvx wvy : Value), kk ≤ es.length ∧ es.length - kk ≤ gg ∧ v11 = .int .i64 kk ∧ w3.heap.size ≤ wr.heap.size ∧ Aside0 (Man w.heap.size wr g Ag wv S) ∧ Aside0 (Man w1.heap.size wr g2 Ag2 wvx (playTo S es kk)) ∧ Aside0 (Man w2.heap.size wr g3 Ag3 wvy (playTo S es kk)) ∧ Aside0 (Apart (foot g Ag wv) (foot g2 Ag2 wvx)) ∧ Aside0 (Apart (foot g Ag wv) (foot g3 Ag3 wvy)) ∧ Aside0 (Apart (foot g2 Ag2 wvx) (foot g3 Ag3 wvy)) ∧ Aside0 (Kd.R (Kd.int .i64) 3 wr w3.heap.size (fun _ => True) (.slice A4 LL.length c4) LL) ∧ Aside0 (Below w.heap.size w wr))
  case atStart => exact ⟨0, _, _, Nat.zero_le _, by omega, rfl, hsz4, M4, X4, Y4, DMX, DMY, DXY, Q4, B4⟩
  case round =>
    clear M4 X4 Y4 DMX DMY DXY Q4 B4
    obtain ⟨kk, wvx, wvy, hkk, hgg, rfl, hszr, M4, X4, Y4, DMX, DMY, DXY, Q4, B4⟩ := hrel
    obtain ⟨hgd, hgn⟩ := HG.out kk hkk
    have hlen := few hgd (by omega)
    by_cases hlt : kk < es.length
    · obtain ⟨ad, rfl, e1, e2, e3, e4⟩ := HE.out kk hlt
      rw [add_field ad (kk * 4) 1 (by decide)] at e2
      rw [add_field ad (kk * 4) 2 (by decide)] at e3
      rw [add_field ad (kk * 4) 3 (by decide)] at e4
      have E4 := Aside0.mk (fun (W : World) (hW : Below w.heap.size w W) => (⟨(hW.cell (World.block_lt_of_cell? w _ e1)).trans e1, (hW.cell (World.block_lt_of_cell? w _ e2)).trans e2, (hW.cell (World.block_lt_of_cell? w _ e3)).trans e3, (hW.cell (World.block_lt_of_cell? w _ e4)).trans e4⟩ : _ ∧ _ ∧ _ ∧ _))
      clear e1 e2 e3 e4
      obtain ⟨e1, e2, e3, e4⟩ := E4.out _ B4.out
      have hsn := HS.out kk hlt
      have hdx := done_calls X4.out (by omega) (by omega) es[kk]!.d es[kk]!.t es[kk]!.k es[kk]!.a
      have hdy := fun (W : World) (hM : Man w2.heap.size W g3 Ag3 wvy (playTo S es kk)) (hB : w2.heap.size ≤ W.heap.size) => done_calls hM hB (by omega) es[kk]!.d es[kk]!.t es[kk]!.k es[kk]!.a
      rw [show (step1 (playTo S es kk) es[kk]!).1 = (deed (playTo S es kk) es[kk]!.d es[kk]!.t es[kk]!.k es[kk]!.a).1 from rfl] at hsn
      obtain ⟨hgd2, hgn2⟩ := HG.out (kk + 1) (by omega)
      have hlen2 := few hgd2 (by omega)
      have hbl : (deed (playTo S es kk) es[kk]!.d es[kk]!.t es[kk]!.k es[kk]!.a).2.1.length ≤ 1000000 := by
        have := parts_len (parts_deed hgd es[kk]!.d es[kk]!.t es[kk]!.k es[kk]!.a)
        have h2 : (own1 (playTo S es kk) es[kk]!.d es[kk]!.t es[kk]!.k es[kk]!.a).length ≤ 49 := by
          unfold own1
          split
          · rw [List.length_append, List.length_map, List.length_singleton]; omega
          · rw [List.length_map]; omega
        omega
      generalize es[kk]! = x at *
      generalize hG1 : playTo S es (kk + 1) = S1 at *
      have HG1e := Aside0.mk hG1
      clear hG1
      generalize playTo S es kk = S0 at *
      obtain ⟨bk, er, hde⟩ : ∃ bk er, deed S0 x.d x.t x.k x.a = (S1, bk, er) := ⟨_, _, Prod.ext hsn.symm rfl⟩
      rw [hde] at hdx hbl
      simp only at hbl
      have hdy2 : ∀ W, Man w2.heap.size W g3 Ag3 wvy S0 → w2.heap.size ≤ W.heap.size → Calls Try.prog 11 #[.pointer (some ⟨g3, 0, none⟩), .agg #[.int .i64 x.d, .int .i64 x.t, .int .i64 x.k, .int .i64 x.a]] W (Told w2.heap.size W g3 Ag3 wvy (S1, bk, er)) := fun W hM hB => by rw [← hde]; exact hdy W hM hB
      have HDX := Aside0.mk hdx
      have HDY := Aside0.mk hdy2
      clear hdx hdy hdy2 hde hsn hgd hgd2
      have tokA : True := trivial
      go_wp2_with (first
        | (go_at_call 11; have _t := tokA; clear _t tokA; refine (HDX.out).mono ?_; rintro e w5 ⟨v5, rfl, hr, wvx5, hm, hk, hb, hw⟩; obtain ⟨A5, c5, rfl⟩ := Kd.R_slice hr; have Q5 := Aside0.mk hr; have X5 := Aside0.mk hm; have M5 := Aside0.mk (man_apart M4.out hk DMX.out); have Y5 := Aside0.mk (man_apart Y4.out hk (apart_symm DXY.out)); have DMX5 := Aside0.mk (apart_after M4.out DMX.out hw); have DXY5 := Aside0.mk (apart_symm (apart_after Y4.out (apart_symm DXY.out) hw)); have Q45 := Aside0.mk (R_deed Q4.out X4.out hk); have B5 := Aside0.mk (B4.out.trans (hb.mono hsz1)); have hsz5 := hk.1; clear hr hm hk hb hw e1 e2 e3 e4; obtain ⟨e1, e2, e3, e4⟩ := E4.out _ B5.out; have tokB : True := trivial)
        | (go_at_call 11; have _t := tokB; clear _t tokB; refine (HDY.out w5 Y5.out (by omega)).mono ?_; rintro e w6 ⟨v6, rfl, hr, wvy6, hm, hk, hb, hw⟩; obtain ⟨A6, c6, rfl⟩ := Kd.R_slice hr; have Q6 := Aside0.mk hr; have Y6 := Aside0.mk hm; have M6 := Aside0.mk (man_apart M5.out hk DMY.out); have X6 := Aside0.mk (man_apart X5.out hk DXY5.out); have DMY6 := Aside0.mk (apart_after M5.out DMY.out hw); have DXY6 := Aside0.mk (apart_after X5.out DXY5.out hw); have Q46 := Aside0.mk (R_deed Q45.out Y5.out hk); have Q56 := Aside0.mk (R_deed Q5.out Y5.out hk); have B6 := Aside0.mk (B5.out.trans (hb.mono (by omega))); have hsz6 := hk.1; clear hr hm hk hb hw e1 e2 e3 e4)
        | (go_at_call 16; refine (intsEq A5 A6 c5 c6 bk bk _ (reads_R Q56.out) (reads_R Q6.out) hbl).mono ?_; rw [decide_eq_true (rfl : bk = bk)]; rintro e w7 ⟨rfl, q, hw⟩; have hbq : Below w6.heap.size w6 w7 := (by rw [hw]; exact pw_below_drewN (Below.refl _ _) q); have M7 := Aside0.mk (M6.out.grow hbq); have X7 := Aside0.mk (X6.out.grow hbq); have Y7 := Aside0.mk (Y6.out.grow hbq); have Q7 := Aside0.mk (Kd.R_below Q46.out hbq); have B7 := Aside0.mk (B6.out.trans (hbq.mono B6.out.size)); have hsz7 := hbq.size; clear hw hbq))
      go_roundg (es.length - (kk + 1))
      case measure => omega
      case rel => exact ⟨kk + 1, _, _, by omega, by omega, by go_num, by omega, M7, by rw [HG1e.out]; exact X7, by rw [HG1e.out]; exact Y7, DMX5, DMY6, DXY6, Q7, B7⟩
    · have hkk2 : kk = es.length := by omega
      subst hkk2
      obtain ⟨SE, hSE⟩ : ∃ SE, SE = playTo S es es.length := ⟨_, rfl⟩
      obtain ⟨EE, hEE⟩ : ∃ EE, EE = SE.ws.map (·.2) := ⟨_, rfl⟩
      rw [← hSE] at X4 Y4 hgd hgn hlen
      have HEE := Aside0.mk hEE
      have HSE := Aside0.mk hSE
      have hel : EE.length ≤ 1000000 := by rw [hEE, List.length_map]; omega
      clear hEE hSE hgd
      have t1 : True := trivial
      go_wp2_with (first
        | (go_at_call 13; have _t := t1; clear _t t1; refine (waiting_calls M4.out (by omega)).mono ?_; rintro e w5 ⟨v, rfl, hr, hb⟩; rw [← HLL.out] at hr; obtain ⟨A5, c5, rfl⟩ := Kd.R_slice hr; have Q5 := Aside0.mk hr; have Q45 := Aside0.mk (Kd.R_below Q4.out hb); have M5 := Aside0.mk (M4.out.grow hb); have X5 := Aside0.mk (X4.out.grow hb); have Y5 := Aside0.mk (Y4.out.grow hb); have B5 := Aside0.mk (B4.out.trans (hb.mono B4.out.size)); have hsz5 := hb.size; clear hr hb; have t2 : True := trivial)
        | (go_at_call 16; have _t := t2; clear _t t2; refine (intsEq A5 A4 c5 c4 LL LL _ (reads_R Q5.out) (reads_R Q45.out) hwl2).mono ?_; rw [decide_eq_true (rfl : LL = LL)]; rintro e w6 ⟨rfl, q, hw⟩; have hb : Below w5.heap.size w5 w6 := (by rw [hw]; exact pw_below_drewN (Below.refl _ _) q); have M6 := Aside0.mk (M5.out.grow hb); have X6 := Aside0.mk (X5.out.grow hb); have Y6 := Aside0.mk (Y5.out.grow hb); have B6 := Aside0.mk (B5.out.trans (hb.mono B5.out.size)); have hsz6 := hb.size; clear hw hb; have t3 : True := trivial)
        | (go_at_call 13; have _t := t3; clear _t t3; refine (waiting_calls X6.out (by omega)).mono ?_; rintro e w7 ⟨v, rfl, hr, hb⟩; rw [← HEE.out] at hr; obtain ⟨A7, c7, rfl⟩ := Kd.R_slice hr; have Q7 := Aside0.mk hr; have M7 := Aside0.mk (M6.out.grow hb); have X7 := Aside0.mk (X6.out.grow hb); have Y7 := Aside0.mk (Y6.out.grow hb); have B7 := Aside0.mk (B6.out.trans (hb.mono B6.out.size)); have hsz7 := hb.size; clear hr hb; have t4 : True := trivial)
        | (go_at_call 13; have _t := t4; clear _t t4; refine (waiting_calls Y7.out (by omega)).mono ?_; rintro e w8 ⟨v, rfl, hr, hb⟩; rw [← HEE.out] at hr; obtain ⟨A8, c8, rfl⟩ := Kd.R_slice hr; have Q8 := Aside0.mk hr; have Q78 := Aside0.mk (Kd.R_below Q7.out hb); have M8 := Aside0.mk (M7.out.grow hb); have X8 := Aside0.mk (X7.out.grow hb); have Y8 := Aside0.mk (Y7.out.grow hb); have B8 := Aside0.mk (B7.out.trans (hb.mono B7.out.size)); have hsz8 := hb.size; clear hr hb; have t5 : True := trivial)
        | (go_at_call 16; have _t := t5; clear _t t5; refine (intsEq A7 A8 c7 c8 EE EE _ (reads_R Q78.out) (reads_R Q8.out) hel).mono ?_; rw [decide_eq_true (rfl : EE = EE)]; rintro e w9 ⟨rfl, q, hw⟩; have hb : Below w8.heap.size w8 w9 := (by rw [hw]; exact pw_below_drewN (Below.refl _ _) q); have M9 := Aside0.mk (M8.out.grow hb); have X9 := Aside0.mk (X8.out.grow hb); have Y9 := Aside0.mk (Y8.out.grow hb); have B9 := Aside0.mk (B8.out.trans (hb.mono B8.out.size)); have hsz9 := hb.size; clear hw hb))
      clear M4 X4 Y4 B4 Q4 M5 X5 Y5 B5 Q5 Q45 M6 X6 Y6 B6 M7 X7 Y7 B7 Q7 M8 X8 Y8 B8 Q8 Q78 DXY
      go_loopg [16] es.length (fun gg v16 wr => ∃ (kk : Nat) (wvm : Value), kk ≤ es.length ∧ es.length - kk ≤ gg ∧ v16 = .int .i64 kk ∧ w3.heap.size ≤ wr.heap.size ∧ Aside0 (Man w.heap.size wr g Ag wvm (playTo S es kk)) ∧ Aside0 (Man w1.heap.size wr g2 Ag2 wvx SE) ∧ Aside0 (Man w2.heap.size wr g3 Ag3 wvy SE) ∧ Aside0 (Apart (foot g2 Ag2 wvx) (foot g Ag wvm)) ∧ Aside0 (Apart (foot g3 Ag3 wvy) (foot g Ag wvm)) ∧ Aside0 (Below w.heap.size w wr))
      case atStart => exact ⟨0, _, Nat.zero_le _, by omega, rfl, by omega, M9, X9, Y9, ⟨apart_symm DMX.out⟩, ⟨apart_symm DMY.out⟩, B9⟩
      case round =>
        clear M9 X9 Y9 DMX DMY B9
        obtain ⟨kk, wvm, hkk, hgg, rfl, hszr, M4, X4, Y4, DXM, DYM, B4⟩ := hrel
        obtain ⟨hgd, hgn2⟩ := HG.out kk hkk
        have hlen3 := few hgd (by omega)
        by_cases hlt : kk < es.length
        · obtain ⟨ad, rfl, e1, e2, e3, e4⟩ := (HE.out.below B4.out) kk hlt
          rw [add_field ad (kk * 4) 1 (by decide)] at e2
          rw [add_field ad (kk * 4) 2 (by decide)] at e3
          rw [add_field ad (kk * 4) 3 (by decide)] at e4
          have hsn := HS.out kk hlt
          have hdm := done_calls M4.out B4.out.size (by omega) es[kk]!.d es[kk]!.t es[kk]!.k es[kk]!.a
          have HSN := Aside0.mk hsn
          have HDM := Aside0.mk hdm
          clear hsn hdm hgd
          generalize es[kk]! = x at *
          go_wp2_with (go_at_call 11; refine (HDM.out).mono ?_; rintro e w5 ⟨v5, rfl, _, wvm5, hm, hk, hb, hw⟩; have M5 := Aside0.mk (show Man w.heap.size w5 g Ag wvm5 (playTo S es (kk + 1)) from (show playTo S es (kk + 1) = _ from HSN.out) ▸ hm); have X5 := Aside0.mk (man_apart X4.out hk DXM.out); have Y5 := Aside0.mk (man_apart Y4.out hk DYM.out); have DXM5 := Aside0.mk (apart_after X4.out DXM.out hw); have DYM5 := Aside0.mk (apart_after Y4.out DYM.out hw); have B5 := Aside0.mk (B4.out.trans hb); have hsz5 := hk.1; clear hm hk hb hw)
          go_roundg (es.length - (kk + 1))
          case measure => omega
          case rel => exact ⟨kk + 1, _, by omega, by omega, by go_num, by omega, M5, X5, Y5, DXM5, DYM5, B5⟩
        · have hkk2 : kk = es.length := by omega
          subst hkk2
          rw [← HSE.out] at M4
          clear DXM DYM hgd hlen3 hgn2
          have t1 : True := trivial
          go_wp2_with (first
            | (go_at_call 13; have _t := t1; clear _t t1; refine (waiting_calls M4.out (by omega)).mono ?_; rintro e w5 ⟨v, rfl, hr, hb⟩; rw [← HEE.out] at hr; obtain ⟨A5, c5, rfl⟩ := Kd.R_slice hr; have Q5 := Aside0.mk hr; have X5 := Aside0.mk (X4.out.grow hb); have Y5 := Aside0.mk (Y4.out.grow hb); have B5 := Aside0.mk (B4.out.trans (hb.mono B4.out.size)); clear hr hb; have t2 : True := trivial)
            | (go_at_call 13; have _t := t2; clear _t t2; refine (waiting_calls Y5.out (by omega)).mono ?_; rintro e w6 ⟨v, rfl, hr, hb⟩; rw [← HEE.out] at hr; obtain ⟨A6, c6, rfl⟩ := Kd.R_slice hr; have Q6 := Aside0.mk hr; have Q56 := Aside0.mk (Kd.R_below Q5.out hb); have X6 := Aside0.mk (X5.out.grow hb); have Y6 := Aside0.mk (Y5.out.grow hb); have B6 := Aside0.mk (B5.out.trans (hb.mono B5.out.size)); clear hr hb; have t3 : True := trivial)
            | (go_at_call 16; have _t := t3; clear _t t3; refine (intsEq A5 A6 c5 c6 EE EE _ (reads_R Q56.out) (reads_R Q6.out) hel).mono ?_; rw [decide_eq_true (rfl : EE = EE)]; rintro e w7 ⟨rfl, q, hw⟩; have hb : Below w6.heap.size w6 w7 := (by rw [hw]; exact pw_below_drewN (Below.refl _ _) q); have X7 := Aside0.mk (X6.out.grow hb); have Y7 := Aside0.mk (Y6.out.grow hb); have B7 := Aside0.mk (B6.out.trans (hb.mono B6.out.size)); clear hw hb; have t4 : True := trivial)
            | (go_at_call 13; have _t := t4; clear _t t4; refine (waiting_calls X7.out (by omega)).mono ?_; rintro e w8 ⟨v, rfl, hr, hb⟩; rw [← HEE.out] at hr; obtain ⟨A8, c8, rfl⟩ := Kd.R_slice hr; have Q8 := Aside0.mk hr; have Y8 := Aside0.mk (Y7.out.grow hb); have B8 := Aside0.mk (B7.out.trans (hb.mono B7.out.size)); clear hr hb; have t5 : True := trivial)
            | (go_at_call 13; have _t := t5; clear _t t5; refine (waiting_calls Y8.out (by omega)).mono ?_; rintro e w9 ⟨v, rfl, hr, hb⟩; rw [← HEE.out] at hr; obtain ⟨A9, c9, rfl⟩ := Kd.R_slice hr; have Q9 := Aside0.mk hr; have Q89 := Aside0.mk (Kd.R_below Q8.out hb); have B9 := Aside0.mk (B8.out.trans (hb.mono B8.out.size)); clear hr hb; have t6 : True := trivial)
            | (go_at_call 16; have _t := t6; clear _t t6; refine (intsEq A8 A9 c8 c9 EE EE _ (reads_R Q89.out) (reads_R Q9.out) hel).mono ?_; rw [decide_eq_true (rfl : EE = EE)]; rintro e w10 ⟨rfl, q, hw⟩; have hb : Below w9.heap.size w9 w10 := (by rw [hw]; exact pw_below_drewN (Below.refl _ _) q); have B10 := Aside0.mk (B9.out.trans (hb.mono B9.out.size)); clear hw hb)
            | (go_at_call 9; refine (sane_calls _).mono ?_; rintro e w11 ⟨rfl, hb⟩; have B11 := Aside0.mk (B10.out.trans (hb.mono B10.out.size)); clear hb))
          go_ret
          exact ⟨rfl, B11.out⟩
theorem copies_row (t : Int) (A : Option Addr) (len c : Nat) (ds : List DD) (A2 : Option Addr) (len2 c2 : Nat) (es : List DD) (w : World) (_ht : (Lit.int .i64 t).wf = true) (hd : ds.length = len ∧ DeedsAt w A ds) (he : es.length = len2 ∧ DeedsAt w A2 es) :
    Calls Try.prog 7 #[.int .i64 t, .slice A len c, .slice A2 len2 c2] w fun e w' => e = .returned (.bool true) ∧ Below w.heap.size w w' := by
  obtain ⟨rfl, hd⟩ := hd
  obtain ⟨rfl, he⟩ := he
  by_cases hl : ds.length ≤ 200 ∧ es.length ≤ 200
  · by_cases h : 1 ≤ t ∧ t ≤ 4
    · obtain ⟨n, rfl⟩ := Int.eq_ofNat_of_zero_le (show 0 ≤ t by omega)
      exact copies_walk n A A2 c c2 ds es w hd he (by omega) (by omega) hl.1 hl.2
    · exact copies_none t A A2 c c2 ds es w hl.1 hl.2 (by omega)
  · exact copies_long t A A2 c c2 ds es w (by omega)
end Go.Proofs.Ytgdadefobhfkcaa.Hy
