/- The walk of EpochCopies: plain lemmas; no condition. -/
import Derived.Test.YtcfodmnpmjkpbaaGC0
import Derived.Test.YtcfodmnpmjkpbaaGS0
import Derived.Test.YtcfodmnpmjkpbaaGR
namespace Go.Proofs.Ytcfodmnpmjkpbaa.Ep
open Go.RowKit Go.Proofs.YtcfodmnpmjkpbaaW.PrintWords Go.Proofs.YtcfodmnpmjkpbaaW.PrintLast Go.Proofs.YtcfodmnpmjkpbaaW.PrintMore
set_option linter.unusedVariables false
set_option linter.unusedSimpArgs false
set_option maxHeartbeats 8000000
set_option maxRecDepth 100000
theorem sim_play0 (n : Nat) (hn : 0 < n) (ds : List DD) : ∀ k, k ≤ ds.length → Sim (playTo (newM n) ds k) (rplayTo (rnew n) ds k) := by
  intro k
  induction k with
  | zero => intro _; exact sim_new n hn
  | succ k ih =>
    intro hk
    rw [playTo_succ _ _ _ (by omega), rplayTo_succ _ _ _ (by omega)]
    exact (sim_deed (ih (by omega)) _ _ _ _).1
theorem sim_from {m : EM} {r : RM} (h : Sim m r) (ds : List DD) : ∀ k, k ≤ ds.length → Sim (playTo m ds k) (rplayTo r ds k) := by
  intro k
  induction k with
  | zero => intro _; exact h
  | succ k ih =>
    intro hk
    rw [playTo_succ _ _ _ (by omega), rplayTo_succ _ _ _ (by omega)]
    exact (sim_deed (ih (by omega)) _ _ _ _).1
theorem low_from {m : EM} {j : Nat} (h : Low m j) (ds : List DD) : ∀ k, k ≤ ds.length → Low (playTo m ds k) (j + k) ∧ (playTo m ds k).th.length = m.th.length := by
  intro k
  induction k with
  | zero => intro _; exact ⟨h, rfl⟩
  | succ k ih =>
    intro hk
    obtain ⟨h1, h2⟩ := ih (by omega)
    rw [playTo_succ _ _ _ (by omega)]
    obtain ⟨g1, g2⟩ := deed_low h1 ds[k]!.d ds[k]!.t ds[k]!.k ds[k]!.a
    exact ⟨g1, g2.trans h2⟩
theorem rlow_from {m : RM} {j : Nat} (h : RLow m j) (ds : List DD) : ∀ k, k ≤ ds.length → RLow (rplayTo m ds k) (j + k) ∧ (rplayTo m ds k).n = m.n := by
  intro k
  induction k with
  | zero => intro _; exact ⟨h, rfl⟩
  | succ k ih =>
    intro hk
    obtain ⟨h1, h2⟩ := ih (by omega)
    rw [rplayTo_succ _ _ _ (by omega)]
    obtain ⟨g1, g2⟩ := rdeed_low h1 ds[k]!.d ds[k]!.t ds[k]!.k ds[k]!.a
    exact ⟨g1, g2.trans h2⟩
theorem own_lower {B B' : Nat} {w : World} {e : TypeId} {s n : Nat} {v : Value} {xs : List Value} (h : w.ownsRow B e s v n xs) (hB : B' ≤ B) : w.ownsRow B' e s v n xs := by
  obtain ⟨p1, p2⟩ := h
  refine ⟨p1, p2.imp_right ?_⟩
  rintro ⟨b, cap, cur, e, h3, h5⟩
  exact ⟨b, cap, cur, e, Nat.le_trans hB h3, h5⟩
theorem Man.lower {B B' : Nat} {w : World} {g : Nat} {tv wv : Value} {m : EM} (h : Man B w g tv wv m) (hB : B' ≤ B) : Man B' w g tv wv m :=
  ⟨h.small, Nat.le_trans hB h.bg, h.top, own_lower h.tow hB, own_lower h.own hB⟩
theorem Man.rise {B B' : Nat} {w : World} {g : Nat} {tv wv : Value} {m : EM} (h : Man B w g tv wv m) (hf : ∀ k, foot g tv wv k → B' ≤ k) : Man B' w g tv wv m := by
  refine ⟨h.small, hf g (.inl rfl), h.top, ?_, ?_⟩
  · obtain ⟨p1, p2⟩ := h.tow
    refine ⟨p1, p2.imp_right ?_⟩
    rintro ⟨b, cap, cur, e, h3, h5⟩
    exact ⟨b, cap, cur, e, hf b (.inr (.inl (by rw [e]; rfl))), h5⟩
  · obtain ⟨p1, p2⟩ := h.own
    refine ⟨p1, p2.imp_right ?_⟩
    rintro ⟨b, cap, cur, e, h3, h5⟩
    exact ⟨b, cap, cur, e, hf b (.inr (.inr (by rw [e]; rfl))), h5⟩
theorem ref_low {B B' : Nat} {w : World} {r : Nat} {iv : Value} {m : RM} (h : Ref B w r iv m) (hB : B' ≤ B) : Ref B' w r iv m := ⟨h.small, Nat.le_trans hB h.br, h.top, own_lower h.own hB⟩
theorem ref_high {B : Nat} {w w' : World} {r : Nat} {iv : Value} {m : RM} (h : Ref 0 w' r iv m) (h0 : Ref B w r iv m) (_ : w.heap.size ≤ w'.heap.size) : Ref B w' r iv m := by
  refine ⟨h.small, h0.br, h.top, ?_⟩
  obtain ⟨p1, p2⟩ := h.own
  refine ⟨p1, p2.imp_right ?_⟩
  rintro ⟨b, cap, cur, e, h3, h5⟩
  exact ⟨b, cap, cur, e, own_base h0.own b (by rw [e]; rfl), h5⟩
theorem man_beside2 {B B' : Nat} {w w' : World} {g r : Nat} {tv wv iv : Value} {m : EM} {rm : RM} (hm : Man B w g tv wv m) (hr : Ref B' w r iv rm) (hk : Kept w w' (rfoot r iv)) : Man B w' g tv wv m := by
  have := man_beside (hm.lower (Nat.zero_le _)) (ref_low hr (Nat.zero_le _)) hk
  exact this.rise (fun k hf => (hm.foot_lt k hf).1)
theorem copies_walk (t : Int) (A A2 : Option Addr) (c c2 : Nat) (ds es : List DD) (w : World) (hd : DeedsAt w A ds) (he : DeedsAt w A2 es) :
    Calls Try.prog 11 #[.int .i64 t, .slice A ds.length c, .slice A2 es.length c2] w fun e w' => e = .returned (.bool true) ∧ Below w.heap.size w w' := by
  have HD := Aside0.mk hd
  have HE := Aside0.mk he
  clear hd he
  go_enter Try.func11, Try.ntmps11
  go_wp2_with (first
    | (go_at_call 12; refine (awake_calls _).mono ?_; rintro e w1 ⟨rfl, hb⟩; have B1 := Aside0.mk hb; clear hb)
    | (go_at_call 22; refine (made_calls t A c ds w1 (HD.out.below B1.out)).mono ?_; rintro e w2 ⟨n, g, tv, wv, iv, cur, hn1, hn4, rfl, hm, hrb, ho, hb⟩; have M2 := Aside0.mk hm; have HRB := Aside0.mk hrb; have HO := Aside0.mk ho; have B2 := Aside0.mk (btrans B1.out hb); have hone : Aside0 (cur.all (·.oneCell') = true) := (by constructor; obtain ⟨A5, c5, hiv⟩ := own_form ho; exact hrb.one (by rw [hiv]; rfl)); have hsz12 := hb.size; clear hm hrb ho hb)
    | ((with_reducible refine gate_ (.alloc 38) rfl ?_); refine wpList_alloc38 rfl rfl ?_; intro W3 hz hb hs; have HZ := Aside0.mk hz; have M3 := Aside0.mk (M2.out.grow hb); have HO3 := Aside0.mk (pw_own_below HO.out hb); have B3 := Aside0.mk (btrans B2.out hb); have hsz2 := B2.out.size; clear hz hb hs)
    | ((with_reducible refine gate_ (.store 38 (.tmp 8) (.tmp 25)) rfl ?_); refine wpList_store_whole rfl 38 (.tmp 8) (.tmp 25) rfl w2.heap.size cur zero30 38 rfl rfl HZ.out HRB.out.size.symm (by rw [info38, HRB.out.size]) hone.out ?_; intro W4 h3 far e1 e2 e3 e4; have M4 := Aside0.mk (man_keep M3.out (w' := W4) (fun k hk => far k (by have := (M2.out.foot_lt k hk).2; omega))); have R4 : Aside0 (Ref w1.heap.size W4 w2.heap.size iv (rplayTo (rnew n) ds (min ds.length 150))) := ⟨⟨by rw [(rplayTo_low n ds (min ds.length 150) (Nat.min_le_left _ _)).2]; exact hn4, hsz12, ⟨_, h3, HRB.out⟩, own_move HO3.out (fun k hk => far k (by have := own_lt HO.out k hk; omega))⟩⟩; have B4 := Aside0.mk (below_store B3.out hsz2 far e1 e2 e3 e4); clear h3 far e1 e2 e3 e4 M3 B3 HZ M2 hone HRB HO HO3))
  obtain ⟨hpl, pl4⟩ := playTo_low n ds (min ds.length 150) (Nat.min_le_left _ _)
  obtain ⟨hrl, rl4⟩ := rplayTo_low n ds (min ds.length 150) (Nat.min_le_left _ _)
  have hsim := sim_play0 n hn1 ds (min ds.length 150) (Nat.min_le_left _ _)
  have hK : min ds.length 150 ≤ 150 := Nat.min_le_right _ _
  generalize min ds.length 150 = K at *
  generalize playTo (newM n) ds K = S0 at *
  generalize rplayTo (rnew n) ds K = R0 at *
  generalize w2.heap.size = r at *
  have HPL := Aside0.mk (low_from hpl es)
  have HRL := Aside0.mk (rlow_from hrl es)
  have HSIM := Aside0.mk (sim_from hsim es)
  have HS1 := Aside0.mk (playTo_succ S0 es)
  have HS2 := Aside0.mk (rplayTo_succ R0 es)
  have hBw : w.heap.size ≤ w1.heap.size := B1.out.size
  have hgw : w1.heap.size ≤ W4.heap.size := by have := M4.out.bg; have := blk_lt M4.out.top; omega
  have h0l : 0 < S0.th.length := by omega
  have hwl0 : S0.ws.length ≤ 150 := by have := hpl.1; omega
  have HWL0 : Aside0 (S0.ws.map (·.1) = addrs S0) := ⟨rfl⟩
  have hal0 : (addrs S0).length ≤ 1000000 := by unfold addrs; rw [List.length_map]; omega
  have MF := Aside0.mk (fun k hk => (M4.out.foot_lt k hk).2)
  have HCP := Aside0.mk (copy_calls M4.out h0l (by omega))
  clear hpl hrl hsim B1 B2
  have tok1 : True := trivial
  go_wp2_with (first
    | (go_at_call 30; refine (HCP.out).mono ?_; rintro e w5 ⟨g2, tv2, wv2, rfl, hx, hb⟩; have X5 := Aside0.mk hx; have M5 := Aside0.mk (M4.out.grow hb); have R5 := Aside0.mk (R4.out.grow hb); have B5 := Aside0.mk (B4.out.trans (hb.mono B4.out.size)); have hsz5 := hb.size; clear hx hb M4 R4 B4 HCP)
    | (go_at_call 19; have _t := tok1; clear _t tok1; refine (waiting_calls M5.out h0l (by omega)).mono ?_; rintro e w6 ⟨v6, rfl, hr, hb⟩; rw [HWL0.out] at hr; obtain ⟨A6, c6, rfl⟩ := Kd.R_slice hr; have Q6 := Aside0.mk hr; have X6 := Aside0.mk (X5.out.grow hb); have M6 := Aside0.mk (M5.out.grow hb); have R6 := Aside0.mk (R5.out.grow hb); have B6 := Aside0.mk (B5.out.trans (hb.mono B5.out.size)); have hsz6 := hb.size; have hg2 := blk_lt X5.out.top; have HTV2 := Aside0.mk (fun k hk => own_lt X5.out.tow k hk); clear hr hb M5 R5 B5 X5; have tok2 : True := trivial)
    | (go_at_call 21; have _t := tok2; clear _t tok2; refine (epoch_calls M6.out h0l).mono ?_; rintro e w7 ⟨rfl, hw⟩; rw [hw]; clear hw))
  have hwW : w.heap.size ≤ W4.heap.size := Nat.le_trans hBw hgw
  generalize W4.heap.size = b2 at *
  go_loopg [13, 14, 15, 16, 17] (min es.length 150) (fun gg v13 v14 v15 v16 v17 wr => ∃ (kk : Nat) (wvk ivk : Value), kk ≤ min es.length 150 ∧ min es.length 150 - kk ≤ gg ∧ v13 = .int .i64 kk ∧ w5.heap.size ≤ wr.heap.size ∧ Aside0 (Man w1.heap.size wr g tv wv S0) ∧ Aside0 (Man b2 wr g2 tv2 wvk (playTo S0 es kk)) ∧ Aside0 (Ref w1.heap.size wr r ivk (rplayTo R0 es kk)) ∧ Aside0 (Kd.R (Kd.int .i64) 3 wr w5.heap.size (fun _ => True) (.slice A6 (addrs S0).length c6) (addrs S0)) ∧ Aside0 (Below w.heap.size w wr))
  case atStart => exact ⟨0, _, _, Nat.zero_le _, by omega, rfl, hsz6, M6, X6, R6, Q6, B6⟩
  case round =>
    clear M6 X6 R6 Q6 B6
    obtain ⟨kk, wvk, ivk, hkk, hgg, rfl, hszr, M6, X6, R6, Q6, B6⟩ := hrel
    have hbr : b2 ≤ wr.heap.size := by omega
    have hw1r : w1.heap.size ≤ wr.heap.size := by omega
    obtain ⟨⟨p1, p2, p3⟩, p4⟩ := HPL.out kk (by omega)
    obtain ⟨⟨r1, r2, r3⟩, r4⟩ := HRL.out kk (by omega)
    by_cases hlt : kk < min es.length 150
    · have hl1 : kk < es.length := by omega
      have hl2 : kk < 150 := by omega
      have hl2i : (kk : Int) < 150 := by omega
      obtain ⟨ad, rfl, e1, e2, e3, e4⟩ := HE.out kk hl1
      rw [add_field ad (kk * 4) 1 (by decide)] at e2
      rw [add_field ad (kk * 4) 2 (by decide)] at e3
      rw [add_field ad (kk * 4) 3 (by decide)] at e4
      have hs1 := HS1.out kk hl1
      have hs2 := HS2.out kk hl1
      obtain ⟨_, hse⟩ := sim_deed (HSIM.out kk (by omega)) es[kk]!.d es[kk]!.t es[kk]!.k es[kk]!.a
      have hdo := do_calls X6.out hbr (by omega) (by omega) p2 (by omega) es[kk]!.d es[kk]!.t es[kk]!.k es[kk]!.a
      have hbl := back_len (playTo S0 es kk) es[kk]!.d es[kk]!.t es[kk]!.k es[kk]!.a
      have hbl2 : (deed (playTo S0 es kk) es[kk]!.d es[kk]!.t es[kk]!.k es[kk]!.a).2.1.length ≤ 1000000 := by omega
      have hto := fun (W : World) (h : Ref w1.heap.size W r ivk (rplayTo R0 es kk)) (hB : w1.heap.size ≤ W.heap.size) => told_calls h hB (by omega) r2 (by omega) es[kk]!.d es[kk]!.t es[kk]!.k es[kk]!.a
      rw [show (step1 (playTo S0 es kk) es[kk]!).1 = (deed (playTo S0 es kk) es[kk]!.d es[kk]!.t es[kk]!.k es[kk]!.a).1 from rfl] at hs1
      rw [show (rstep1 (rplayTo R0 es kk) es[kk]!).1 = (rdeed (rplayTo R0 es kk) es[kk]!.d es[kk]!.t es[kk]!.k es[kk]!.a).1 from rfl] at hs2
      have E4 := Aside0.mk (fun (W : World) (hW : Below w.heap.size w W) => (⟨(hW.cell (World.block_lt_of_cell? w _ e1)).trans e1, (hW.cell (World.block_lt_of_cell? w _ e2)).trans e2, (hW.cell (World.block_lt_of_cell? w _ e3)).trans e3, (hW.cell (World.block_lt_of_cell? w _ e4)).trans e4⟩ : _ ∧ _ ∧ _ ∧ _))
      clear e1 e2 e3 e4 hbl
      obtain ⟨e1, e2, e3, e4⟩ := E4.out _ B6.out
      generalize es[kk]! = x at *
      generalize hG1 : playTo S0 es (kk + 1) = S1 at *
      generalize hG2 : rplayTo R0 es (kk + 1) = RS1 at *
      have HG1e := Aside0.mk hG1
      have HG2e := Aside0.mk hG2
      clear hG1 hG2
      generalize playTo S0 es kk = SK at *
      generalize rplayTo R0 es kk = RK at *
      obtain ⟨bk, er, hde⟩ : ∃ bk er, deed SK x.d x.t x.k x.a = (S1, bk, er) := ⟨_, _, Prod.ext hs1.symm rfl⟩
      have hrde : rdeed RK x.d x.t x.k x.a = (RS1, bk, er) := Prod.ext hs2.symm (by rw [← hse, hde])
      rw [hde] at hdo hbl2
      rw [hrde] at hto
      have HDO2 := Aside0.mk hdo
      have HTO2 := Aside0.mk hto
      simp only at hbl2
      clear hdo hto hde hrde hse hs1 hs2
      have tok3 : True := trivial
      go_wp2_with (first
        | (go_at_call 16; refine (HDO2.out).mono ?_; rintro e w7 ⟨v, rfl, hr, wv7, hm, hk, hb, _⟩; obtain ⟨A7, c7, rfl⟩ := Kd.R_slice hr; have Q7 := Aside0.mk hr; have X7 := Aside0.mk hm; have R7 := Aside0.mk (ref_beside (X6.out.rise (B' := 0) (fun k _ => Nat.zero_le k)) (ref_low R6.out (Nat.zero_le _)) hk); have M7 := Aside0.mk (man_keep M6.out (fun k hf => hk.2 k (M6.out.foot_lt k hf).2 (fun hq => by have := MF.out k hf; have := (X6.out.foot_lt k hq).1; omega))); have W7 := Aside0.mk (R_deed Q6.out X6.out hg2 HTV2.out hk); have B7 := Aside0.mk (B6.out.trans (hb.mono hwW)); have hsz7 := hk.1; clear hr hm hk hb e1 e2 e3 e4; obtain ⟨e1, e2, e3, e4⟩ := E4.out _ B7.out)
        | (go_at_call 17; refine (HTO2.out _ (ref_high R7.out R6.out hsz7) (Nat.le_trans hw1r hsz7)).mono ?_; rintro e w8 ⟨v8, rfl, hr, iv8, hrf, hk, hb, _⟩; obtain ⟨A8, c8, rfl⟩ := Kd.R_slice hr; have Q8 := Aside0.mk hr; have R8 := Aside0.mk hrf; have X8 := Aside0.mk (man_beside2 X7.out R7.out hk); have M8 := Aside0.mk (man_beside2 M7.out R7.out hk); have Q78 := Aside0.mk (rR_deed Q7.out R7.out hk); have W8 := Aside0.mk (rR_deed W7.out R7.out hk); have B8 := Aside0.mk (B7.out.trans (hb.mono hBw)); have hsz8 := hk.1; clear hr hrf hk hb e1 e2 e3 e4 M7 R7 B7 Q7 X7 W7)
        | (go_at_call 18; have _t := tok3; clear _t tok3; refine (same_calls A7 A8 c7 c8 bk bk w8 (reads_R Q78.out) (reads_R Q8.out) hbl2).mono ?_; rw [decide_eq_true (rfl : bk = bk)]; rintro e w9 ⟨rfl, q, hw⟩; have hbq : Below w8.heap.size w8 w9 := (by rw [hw]; exact pw_below_drewN (Below.refl _ _) q); have M9 := Aside0.mk (M8.out.grow hbq); have X9 := Aside0.mk (X8.out.grow hbq); have R9 := Aside0.mk (R8.out.grow hbq); have W9 := Aside0.mk (Kd.R_below W8.out hbq); have B9 := Aside0.mk (B8.out.trans (hbq.mono B8.out.size)); have hsz9 := hbq.size; clear hbq hw M8 R8 B8 X8 W8 Q8 Q78))
      go_roundg (min es.length 150 - (kk + 1))
      case measure => omega
      case rel => exact ⟨kk + 1, _, _, by omega, by omega, by go_num, by omega, M9, by rw [HG1e.out]; exact X9, by rw [HG2e.out]; exact R9, W9, B9⟩
    · have hsa := sim_addrs (HSIM.out kk (by omega))
      have hpx : 0 < (playTo S0 es kk).th.length := by omega
      have HSA := Aside0.mk hsa
      have hwlx : (playTo S0 es kk).ws.map (·.1) = addrs (playTo S0 es kk) := rfl
      have HWLX := Aside0.mk hwlx
      have halx : (addrs (playTo S0 es kk)).length ≤ 1000000 := by unfold addrs; rw [List.length_map]; omega
      clear hsa hwlx
      generalize playTo S0 es kk = SK at *
      generalize rplayTo R0 es kk = RK at *
      have tok4 : True := trivial
      have hcase : (kk < es.length ∧ ¬ (kk < 150)) ∨ ¬ (kk < es.length) := by omega
      rcases hcase with ⟨h1, h2⟩ | h1
      all_goals
        go_wp2_with (first
          | (go_at_call 19; have _t := tok4; clear _t tok4; refine (waiting_calls M6.out h0l (by omega)).mono ?_; rintro e w10 ⟨v10, rfl, hr, hb⟩; rw [HWL0.out] at hr; obtain ⟨A10, c10, rfl⟩ := Kd.R_slice hr; have Q10 := Aside0.mk hr; have W10 := Aside0.mk (Kd.R_below Q6.out hb); have X10 := Aside0.mk (X6.out.grow hb); have R10 := Aside0.mk (R6.out.grow hb); have M10 := Aside0.mk (M6.out.grow hb); have B10 := Aside0.mk (B6.out.trans (hb.mono B6.out.size)); clear hr hb M6 X6 R6 B6 Q6; have tok5 : True := trivial)
          | (go_at_call 18; have _t := tok5; clear _t tok5; refine (same_calls A10 A6 c10 c6 (addrs S0) (addrs S0) w10 (reads_R Q10.out) (reads_R W10.out) hal0).mono ?_; rw [decide_eq_true (rfl : addrs S0 = addrs S0)]; rintro e w11 ⟨rfl, q, hw⟩; have hbq : Below w10.heap.size w10 w11 := (by rw [hw]; exact pw_below_drewN (Below.refl _ _) q); have M11 := Aside0.mk (M10.out.grow hbq); have X11 := Aside0.mk (X10.out.grow hbq); have R11 := Aside0.mk (R10.out.grow hbq); have B11 := Aside0.mk (B10.out.trans (hbq.mono B10.out.size)); clear hbq hw M10 X10 R10 B10 Q10 W10; have tok6 : True := trivial)
          | (go_at_call 21; have _t := tok6; clear _t tok6; refine (epoch_calls M11.out h0l).mono ?_; rintro e w12 ⟨rfl, hw⟩; rw [hw]; clear hw; have tok7 : True := trivial)
          | (go_at_call 19; have _t := tok7; clear _t tok7; refine (waiting_calls X11.out hpx (by omega)).mono ?_; rintro e w13 ⟨v13, rfl, hr, hb⟩; rw [HWLX.out] at hr; obtain ⟨A13, c13, rfl⟩ := Kd.R_slice hr; have Q13 := Aside0.mk hr; have R13 := Aside0.mk (R11.out.grow hb); have B13 := Aside0.mk (B11.out.trans (hb.mono B11.out.size)); clear hr hb M11 X11 R11 B11; have tok8 : True := trivial)
          | (go_at_call 20; have _t := tok8; clear _t tok8; refine (rwaiting_calls R13.out (by omega)).mono ?_; rintro e w14 ⟨v14, rfl, hr, hb⟩; rw [← HSA.out] at hr; obtain ⟨A14, c14, rfl⟩ := Kd.R_slice hr; have Q14 := Aside0.mk hr; have Q1314 := Aside0.mk (Kd.R_below Q13.out hb); have B14 := Aside0.mk (B13.out.trans (hb.mono B13.out.size)); clear hr hb R13 B13 Q13; have tok9 : True := trivial)
          | (go_at_call 18; have _t := tok9; clear _t tok9; refine (same_calls A13 A14 c13 c14 (addrs SK) (addrs SK) w14 (reads_R Q1314.out) (reads_R Q14.out) halx).mono ?_; rw [decide_eq_true (rfl : addrs SK = addrs SK)]; rintro e w15 ⟨rfl, q, hw⟩; have B15 := Aside0.mk (show Below w.heap.size w w15 by rw [hw]; exact pw_below_drewN B14.out q); clear hw))
        go_ret
        exact ⟨rfl, B15.out⟩
theorem copies_row (t : Int) (A : Option Addr) (len c : Nat) (ds : List DD) (A2 : Option Addr) (len2 c2 : Nat) (es : List DD) (w : World) (_ht : (Lit.int .i64 t).wf = true) (hd : ds.length = len ∧ DeedsAt w A ds) (he : es.length = len2 ∧ DeedsAt w A2 es) :
    Calls Try.prog 11 #[.int .i64 t, .slice A len c, .slice A2 len2 c2] w fun e w' => e = .returned (.bool true) ∧ Below w.heap.size w w' := by
  obtain ⟨rfl, hd⟩ := hd
  obtain ⟨rfl, he⟩ := he
  exact copies_walk t A A2 c c2 ds es w hd he
end Go.Proofs.Ytcfodmnpmjkpbaa.Ep
