/- The walk of EpochScripts: plain lemmas; no condition. -/
import Derived.Test.YtcfodmnpmjkpbaaGS0
import Derived.Test.YtcfodmnpmjkpbaaGK
import Derived.Test.YtcfodmnpmjkpbaaGR
namespace Go.Proofs.Ytcfodmnpmjkpbaa.Ep
open Go.RowKit Go.Proofs.YtcfodmnpmjkpbaaW.PrintWords Go.Proofs.YtcfodmnpmjkpbaaW.PrintLast Go.Proofs.YtcfodmnpmjkpbaaW.PrintMore
set_option linter.unusedVariables false
set_option linter.unusedSimpArgs false
set_option maxHeartbeats 8000000
set_option maxRecDepth 100000
theorem sim_play (n : Nat) (hn : 0 < n) (ds : List DD) : ∀ k, k ≤ ds.length → Sim (playTo (newM n) ds k) (rplayTo (rnew n) ds k) := by
  intro k
  induction k with
  | zero => intro _; exact sim_new n hn
  | succ k ih =>
    intro hk
    rw [playTo_succ _ _ _ (by omega), rplayTo_succ _ _ _ (by omega)]
    exact (sim_deed (ih (by omega)) _ _ _ _).1
theorem zero30_one : zero30.all (·.oneCell') = true := by decide +kernel
theorem rnew_bad (t : Int) (w : World) (h : t < 1 ∨ 4 < t) : Calls Try.prog 15 #[.int .i64 2, .int .i64 t] w fun e w' => e = .returned (.tuple #[.agg zero30, .int .i64 1]) ∧ Below w.heap.size w w' := by
  rcases h with h | h
  all_goals
    go_enter Try.func15, Try.ntmps15
    go_wp2_with (first
      | ((with_reducible refine gate_ (.alloc 38) rfl ?_); refine wpList_alloc38 rfl rfl ?_; intro W2 hz hb hs; have HZ := Aside0.mk hz; have HB := Aside0.mk hb; have HS := Aside0.mk hs; clear hz hb hs)
      | ((with_reducible refine gate_ (.build 38 #[]) rfl ?_); refine wpList_build38z rfl rfl ?_)
      | ((with_reducible refine gate_ (.store 38 (.tmp 4) (.tmp 20)) rfl ?_); refine wpList_store_whole rfl 38 (.tmp 4) (.tmp 20) rfl w.heap.size zero30 zero30 38 rfl rfl HZ.out rfl info38 zero30_one ?_; intro W3 h3 far e1 e2 e3 e4; have H3 := Aside0.mk h3; have HF : Aside0 (Below w.heap.size w W3) := ⟨HB.out.trans ⟨e1, e2, e3, by omega, fun k hk => far k (by omega)⟩⟩; clear h3 far e1 e2 e3 e4))
    refine bodyPost_ret (results_ct (p := 4) (u := 5) rfl _ _ w.heap.size 38 zero30 (0, 0) _ rfl H3.out Try.underlying38 rfl info38) rfl ?_
    exact ⟨rfl, HF.out⟩
theorem scripts_long (t : Int) (A : Option Addr) (c : Nat) (ds : List DD) (w : World) (h : t < 1 ∨ 4 < t) :
    Calls Try.prog 4 #[.int .i64 t, .slice A ds.length c] w fun e w' => e = .returned (.bool true) ∧ Below w.heap.size w w' := by
  have HN := Aside0.mk (fun W => new_bad t W h)
  have hrb : ∀ W, Calls Try.prog 15 #[.int .i64 2, .int .i64 t] W fun e w' => e = .returned (.tuple #[.agg zero30, .int .i64 1]) ∧ Below W.heap.size W w' := fun W => rnew_bad t W h
  have HRN := Aside0.mk hrb
  clear hrb
  go_enter Try.func4, Try.ntmps4
  go_wp2_with (first
    | (go_at_call 12; refine (awake_calls _).mono ?_; rintro e w1 ⟨rfl, hb⟩; have B1 := Aside0.mk hb; clear hb)
    | (go_at_call 14; refine (HN.out _).mono ?_; rintro e w2 ⟨rfl, hw⟩; rw [hw]; clear hw)
    | (go_at_call 15; refine (HRN.out _).mono ?_; rintro e w3 ⟨rfl, hb⟩; have B3 := Aside0.mk (btrans B1.out hb); clear hb)
    | ((with_reducible refine gate_ (.alloc 38) rfl ?_); refine wpList_alloc38 rfl rfl ?_; intro W5 hz hb hs; have HZ := Aside0.mk hz; have B5 := Aside0.mk (btrans B3.out hb); have hsz3 := B3.out.size; clear hz hb hs)
    | ((with_reducible refine gate_ (.store 38 (.tmp 7) (.tmp 24)) rfl ?_); refine wpList_store_whole rfl 38 (.tmp 7) (.tmp 24) rfl w3.heap.size zero30 zero30 38 rfl rfl HZ.out rfl info38 zero30_one ?_; intro W4 h3 far e1 e2 e3 e4; have B4 := Aside0.mk (below_store B5.out hsz3 far e1 e2 e3 e4); clear h3 far e1 e2 e3 e4 HZ))
  go_loopg [9] 0 (fun gg v9 wr => v9 = .int .i64 0 ∧ W4 = wr)
  case atStart => exact ⟨rfl, rfl⟩
  case round =>
    obtain ⟨rfl, hw⟩ := hrel
    subst hw
    by_cases hl : 0 < ds.length
    · go_wp2
      go_ret
      exact ⟨rfl, B4.out⟩
    · go_wp2
      go_ret
      exact ⟨rfl, B4.out⟩
theorem scripts_walk (n : Nat) (h1 : 1 ≤ n) (h4 : n ≤ 4) (A : Option Addr) (c : Nat) (ds : List DD) (w : World) (hd : DeedsAt w A ds) :
    Calls Try.prog 4 #[.int .i64 n, .slice A ds.length c] w fun e w' => e = .returned (.bool true) ∧ Below w.heap.size w w' := by
  have HN := Aside0.mk (fun W hW => new_calls w.heap.size n W hW h1 h4)
  have HRN := Aside0.mk (fun W => rnew_calls n W h1 h4)
  have HRB := Aside0.mk (new30_is n)
  have HD := Aside0.mk hd
  have HPL := Aside0.mk (playTo_low n ds)
  have HRL := Aside0.mk (rplayTo_low n ds)
  have HS1 := Aside0.mk (playTo_succ (newM n) ds)
  have HS2 := Aside0.mk (rplayTo_succ (rnew n) ds)
  have HSIM := Aside0.mk (sim_play n h1 ds)
  clear hd
  go_enter Try.func4, Try.ntmps4
  go_wp2_with (first
    | (go_at_call 12; refine (awake_calls _).mono ?_; rintro e w1 ⟨rfl, hb⟩; have B1 := Aside0.mk hb; clear hb)
    | (go_at_call 14; refine (HN.out _ B1.out.size).mono ?_; rintro e w2 ⟨g, tv, rfl, hm, hb, _⟩; have M2 := Aside0.mk hm; have B2 := Aside0.mk (btrans B1.out hb); clear hm hb)
    | (go_at_call 15; refine (HRN.out _).mono ?_; rintro e w3 ⟨rfl, hb⟩; have M3 := Aside0.mk (M2.out.grow hb); have B3 := Aside0.mk (btrans B2.out hb); clear hb M2)
    | ((with_reducible refine gate_ (.alloc 38) rfl ?_); refine wpList_alloc38 rfl rfl ?_; intro W5 hz hb hs; have HZ := Aside0.mk hz; have M5 := Aside0.mk (M3.out.grow hb); have B5 := Aside0.mk (btrans B3.out hb); have hsz3 := B3.out.size; clear hz hb hs)
    | ((with_reducible refine gate_ (.store 38 (.tmp 7) (.tmp 24)) rfl ?_); refine wpList_store_whole rfl 38 (.tmp 7) (.tmp 24) rfl w3.heap.size (new30 n) zero30 38 rfl rfl HZ.out rfl info38 (HRB.out.one rfl) ?_; intro W6 h3 far e1 e2 e3 e4; have M6 := Aside0.mk (man_keep M5.out (w' := W6) (fun k hk => far k (by have := (M3.out.foot_lt k hk).2; omega))); have R6 : Aside0 (Ref w.heap.size W6 w3.heap.size (.slice none 0 0) (rnew n)) := ⟨⟨h4, hsz3, ⟨_, h3, HRB.out⟩, ⟨rfl, .inl ⟨rfl, rfl⟩⟩⟩⟩; have B6 := Aside0.mk (below_store B5.out hsz3 far e1 e2 e3 e4); clear h3 far e1 e2 e3 e4 M5 B5 HZ M3 B3))
  generalize w3.heap.size = r at *
  clear HN HRN HRB B1 B2
  go_loopg [9, 10, 11, 12, 13] (min ds.length 150) (fun gg v9 v10 v11 v12 v13 wr => ∃ (kk : Nat) (wvk ivk : Value), kk ≤ min ds.length 150 ∧ min ds.length 150 - kk ≤ gg ∧ v9 = .int .i64 kk ∧ Aside0 (Man w.heap.size wr g tv wvk (playTo (newM n) ds kk)) ∧ Aside0 (Ref w.heap.size wr r ivk (rplayTo (rnew n) ds kk)) ∧ Aside0 (Below w.heap.size w wr))
  case atStart => exact ⟨0, _, _, Nat.zero_le _, by omega, rfl, M6, R6, B6⟩
  case round =>
    clear M6 R6 B6
    obtain ⟨kk, wvk, ivk, hkk, hgg, rfl, M6, R6, B6⟩ := hrel
    by_cases hlt : kk < min ds.length 150
    · have hl1 : kk < ds.length := by omega
      have hl2 : kk < 150 := by omega
      have hl2i : (kk : Int) < 150 := by omega
      obtain ⟨ad, rfl, e1, e2, e3, e4⟩ := HD.out kk hl1
      rw [add_field ad (kk * 4) 1 (by decide)] at e2
      rw [add_field ad (kk * 4) 2 (by decide)] at e3
      rw [add_field ad (kk * 4) 3 (by decide)] at e4
      obtain ⟨⟨p1, p2, p3⟩, p4⟩ := HPL.out kk (by omega)
      obtain ⟨⟨r1, r2, r3⟩, r4⟩ := HRL.out kk (by omega)
      obtain ⟨⟨p5, p6, p7⟩, p8⟩ := HPL.out (kk + 1) (by omega)
      obtain ⟨⟨r5, r6, r7⟩, r8⟩ := HRL.out (kk + 1) (by omega)
      have hs1 := HS1.out kk hl1
      have hs2 := HS2.out kk hl1
      have hsim := HSIM.out (kk + 1) (by omega)
      obtain ⟨_, hse⟩ := sim_deed (HSIM.out kk (by omega)) ds[kk]!.d ds[kk]!.t ds[kk]!.k ds[kk]!.a
      have hdo := do_calls M6.out B6.out.size (by omega) (by omega) p2 (by omega) ds[kk]!.d ds[kk]!.t ds[kk]!.k ds[kk]!.a
      have hbl := back_len (playTo (newM n) ds kk) ds[kk]!.d ds[kk]!.t ds[kk]!.k ds[kk]!.a
      have hbl2 : (deed (playTo (newM n) ds kk) ds[kk]!.d ds[kk]!.t ds[kk]!.k ds[kk]!.a).2.1.length ≤ 1000000 := by omega
      have hto := fun (W : World) (h : Ref w.heap.size W r ivk (rplayTo (rnew n) ds kk)) (hB : w.heap.size ≤ W.heap.size) => told_calls h hB (by omega) r2 (by omega) ds[kk]!.d ds[kk]!.t ds[kk]!.k ds[kk]!.a
      rw [show (step1 (playTo (newM n) ds kk) ds[kk]!).1 = (deed (playTo (newM n) ds kk) ds[kk]!.d ds[kk]!.t ds[kk]!.k ds[kk]!.a).1 from rfl] at hs1
      rw [show (rstep1 (rplayTo (rnew n) ds kk) ds[kk]!).1 = (rdeed (rplayTo (rnew n) ds kk) ds[kk]!.d ds[kk]!.t ds[kk]!.k ds[kk]!.a).1 from rfl] at hs2
      have hsa := sim_addrs hsim
      have hsn := hsim.ep
      have hal : (addrs (playTo (newM n) ds (kk + 1))).length ≤ 1000000 := by unfold addrs; rw [List.length_map]; omega
      have hnp : 0 < (playTo (newM n) ds (kk + 1)).th.length := by omega
      have HSN1 := Aside0.mk hs1
      have HSN2 := Aside0.mk hs2
      have HDO := Aside0.mk hdo
      have HTO := Aside0.mk hto
      have HSE := Aside0.mk hse
      have HSA := Aside0.mk hsa
      have HSNW := Aside0.mk hsn
      have E4 := Aside0.mk (fun (W : World) (hW : Below w.heap.size w W) => (⟨(hW.cell (World.block_lt_of_cell? w _ e1)).trans e1, (hW.cell (World.block_lt_of_cell? w _ e2)).trans e2, (hW.cell (World.block_lt_of_cell? w _ e3)).trans e3, (hW.cell (World.block_lt_of_cell? w _ e4)).trans e4⟩ : _ ∧ _ ∧ _ ∧ _))
      clear e1 e2 e3 e4 hs1 hs2 hse hdo hto hsa hsn hsim hbl
      obtain ⟨e1, e2, e3, e4⟩ := E4.out _ B6.out
      generalize ds[kk]! = x at *
      generalize hG1 : playTo (newM n) ds (kk + 1) = S1 at *
      generalize hG2 : rplayTo (rnew n) ds (kk + 1) = RS1 at *
      have HG1e := Aside0.mk hG1
      have HG2e := Aside0.mk hG2
      clear hG1 hG2
      generalize playTo (newM n) ds kk = S0 at *
      generalize rplayTo (rnew n) ds kk = RS0 at *
      obtain ⟨bk, er, hde⟩ : ∃ bk er, deed S0 x.d x.t x.k x.a = (S1, bk, er) := ⟨_, _, Prod.ext HSN1.out.symm rfl⟩
      have hrde : rdeed RS0 x.d x.t x.k x.a = (RS1, bk, er) := Prod.ext HSN2.out.symm (by rw [← HSE.out, hde])
      have hdo2 := HDO.out
      have hto2 := HTO.out
      rw [hde] at hdo2 hbl2
      rw [hrde] at hto2
      have HDO2 := Aside0.mk hdo2
      have HTO2 := Aside0.mk hto2
      simp only at hbl2
      clear hdo2 hto2 hde hrde HDO HTO HSE HSN1 HSN2
      have hwl : S1.ws.map (·.1) = addrs S1 := rfl
      have HWL := Aside0.mk hwl
      clear hwl
      have tok1 : True := trivial
      go_wp2_with (first
        | (go_at_call 16; refine (HDO2.out).mono ?_; rintro e w7 ⟨v, rfl, hr, wv7, hm, hk, hb, _⟩; obtain ⟨A7, c7, rfl⟩ := Kd.R_slice hr; have Q7 := Aside0.mk hr; have M7 := Aside0.mk hm; have R7 := Aside0.mk (ref_beside M6.out R6.out hk); have B7 := Aside0.mk (B6.out.trans hb); clear hr hm hk hb e1 e2 e3 e4; obtain ⟨e1, e2, e3, e4⟩ := E4.out _ B7.out)
        | (go_at_call 17; refine (HTO2.out _ R7.out B7.out.size).mono ?_; rintro e w8 ⟨v8, rfl, hr, iv8, hrf, hk, hb, _⟩; obtain ⟨A8, c8, rfl⟩ := Kd.R_slice hr; have Q8 := Aside0.mk hr; have R8 := Aside0.mk hrf; have M8 := Aside0.mk (man_beside M7.out R7.out hk); have Q78 := Aside0.mk (rR_deed Q7.out R7.out hk); have B8 := Aside0.mk (B7.out.trans hb); clear hr hrf hk hb e1 e2 e3 e4 M7 R7 B7 Q7))
      go_region_with (first
        | (go_at_call 18; have _t := tok1; clear _t tok1; refine (same_calls A7 A8 c7 c8 bk bk w8.drew (show ReadsI w8.drew A7 bk from reads_R (W := w8) Q78.out) (show ReadsI w8.drew A8 bk from reads_R (W := w8) Q8.out) hbl2).mono ?_; rw [decide_eq_true (rfl : bk = bk)]; rintro e w9 ⟨rfl, q, hw⟩; have hbq : Below w8.heap.size w8 w9 := (by rw [hw]; exact pw_below_drewN (below_drew1 (Below.refl _ _)) q); have M9 := Aside0.mk (M8.out.grow hbq); have R9 := Aside0.mk (R8.out.grow hbq); have B9 := Aside0.mk (B8.out.trans (hbq.mono B8.out.size)); clear hbq; clear hw M8 R8 B8 Q8 Q78; have tok2 : True := trivial)
        | (go_at_call 19; have _t := tok2; clear _t tok2; refine (waiting_calls M9.out hnp (by omega)).mono ?_; rintro e w10 ⟨v10, rfl, hr, hb⟩; rw [HWL.out] at hr; obtain ⟨A10, c10, rfl⟩ := Kd.R_slice hr; have Q10 := Aside0.mk hr; have M10 := Aside0.mk (M9.out.grow hb); have R10 := Aside0.mk (R9.out.grow hb); have B10 := Aside0.mk (B9.out.trans (hb.mono B9.out.size)); clear hr hb M9 R9 B9; have tok3 : True := trivial)
        | (go_at_call 20; have _t := tok3; clear _t tok3; refine (rwaiting_calls R10.out (by omega)).mono ?_; rintro e w11 ⟨v11, rfl, hr, hb⟩; rw [← HSA.out] at hr; obtain ⟨A11, c11, rfl⟩ := Kd.R_slice hr; have Q11 := Aside0.mk hr; have Q1011 := Aside0.mk (Kd.R_below Q10.out hb); have M11 := Aside0.mk (M10.out.grow hb); have R11 := Aside0.mk (R10.out.grow hb); have B11 := Aside0.mk (B10.out.trans (hb.mono B10.out.size)); clear hr hb M10 R10 B10 Q10; have tok4 : True := trivial)
        | (go_at_call 18; have _t := tok4; clear _t tok4; refine (same_calls A10 A11 c10 c11 (addrs S1) (addrs S1) _ (reads_R Q1011.out) (reads_R Q11.out) hal).mono ?_; rw [decide_eq_true (rfl : addrs S1 = addrs S1)]; rintro e w12 ⟨rfl, q, hw⟩; have hbq : Below w11.heap.size w11 w12 := (by rw [hw]; exact pw_below_drewN (Below.refl _ _) q); have M12 := Aside0.mk (M11.out.grow hbq); have R12 := Aside0.mk (R11.out.grow hbq); have B12 := Aside0.mk (B11.out.trans (hbq.mono B11.out.size)); clear hbq; obtain ⟨cur12, c1, c2⟩ := R12.out.top; have k3 : w12.cell? ⟨r, 3, none⟩ = some (.int .i64 RS1.now) := (by rw [Go.Lib.cell_of_heap c1]; exact c2.k3); clear hw c1 c2 M11 R11 B11 Q11 Q1011; have tok5 : True := trivial)
        | (go_at_call 21; have _t := tok5; clear _t tok5; refine (epoch_calls M12.out hnp).mono ?_; rw [HSNW.out]; rintro e w13 ⟨rfl, hw⟩; rw [hw]; clear hw))
      all_goals
        go_wp2
        go_roundg (min ds.length 150 - (kk + 1))
        case measure => omega
        case rel => exact ⟨kk + 1, _, _, by omega, by omega, by go_num, by rw [HG1e.out]; exact M12, by rw [HG2e.out]; exact R12, B12⟩
    · have hcase : (kk < ds.length ∧ ¬ (kk < 150)) ∨ ¬ (kk < ds.length) := by omega
      rcases hcase with ⟨h1, h2⟩ | h1
      all_goals
        go_wp2
        go_ret
        exact ⟨rfl, B6.out⟩
theorem scripts_row (t : Int) (A : Option Addr) (len c : Nat) (ds : List DD) (w : World) (_ht : (Lit.int .i64 t).wf = true) (hd : ds.length = len ∧ DeedsAt w A ds) :
    Calls Try.prog 4 #[.int .i64 t, .slice A len c] w fun e w' => e = .returned (.bool true) ∧ Below w.heap.size w w' := by
  obtain ⟨rfl, hd⟩ := hd
  by_cases h : 1 ≤ t ∧ t ≤ 4
  · obtain ⟨n, rfl⟩ := Int.eq_ofNat_of_zero_le (show 0 ≤ t by omega)
    exact scripts_walk n (by omega) (by omega) A c ds w hd
  · exact scripts_long t A c ds w (by omega)
end Go.Proofs.Ytcfodmnpmjkpbaa.Ep
