/- The walk of HazardPlays: plain lemmas; no condition. -/
import Derived.Test.YtgdadefobhfkcaaHyL6
namespace Go.Proofs.Ytgdadefobhfkcaa.Hy
open Go.RowKit Go.Proofs.YtgdadefobhfkcaaW.PrintWords Go.Proofs.YtgdadefobhfkcaaW.PrintLast Go.Proofs.YtgdadefobhfkcaaW.PrintMore
set_option linter.unusedVariables false
set_option linter.unusedSimpArgs false
set_option maxHeartbeats 8000000
set_option maxRecDepth 100000
theorem alike_calls {B B2 : Nat} {w : World} {g g2 : Nat} {A : Option Addr} {wv hv iv : Value} {ps : List (Nat × Nat)} {m : HM} (hm : Man B w g A wv m) (hr : Ref B2 w g2 hv iv ps m) (hl : m.ws.length ≤ 1000000) :
    Calls Try.prog 21 #[.pointer (some ⟨g, 0, none⟩), .pointer (some ⟨g2, 0, none⟩)] w fun e w' => e = .returned (.bool true) ∧ Below w.heap.size w w' := by
  have H1 := Aside0.mk (waiting_calls hm hl)
  have H2 := Aside0.mk (fun (W : World) (hb : Below w.heap.size w W) => rwaiting_calls (hr.grow hb) hl)
  have hll : (m.ws.map (·.2)).length ≤ 1000000 := by rw [List.length_map]; exact hl
  generalize m.ws.map (·.2) = LL at *
  clear hm hr
  go_enter Try.func21, Try.ntmps21
  go_wp2_with (first
    | (go_at_call 13; refine (H1.out).mono ?_; rintro e w1 ⟨v1, rfl, hr, hb⟩; obtain ⟨A1, c1, rfl⟩ := Kd.R_slice hr; have Q1 := Aside0.mk hr; have B1 := Aside0.mk hb; clear hr hb)
    | (go_at_call 37; refine (H2.out w1 B1.out).mono ?_; rintro e w2 ⟨v2, rfl, hr, hb⟩; obtain ⟨A2, c2, rfl⟩ := Kd.R_slice hr; have Q2 := Aside0.mk hr; have Q12 := Aside0.mk (Kd.R_below Q1.out hb); have B2 := Aside0.mk (B1.out.trans (hb.mono B1.out.size)); clear hr hb)
    | (go_at_call 16; refine (intsEq A1 A2 c1 c2 LL LL _ (reads_R Q12.out) (reads_R Q2.out) hll).mono ?_; rw [decide_eq_true (rfl : LL = LL)]; rintro e w3 ⟨rfl, q, hw⟩; have B3 := Aside0.mk (B2.out.trans ((show Below w2.heap.size w2 w3 by rw [hw]; exact pw_below_drewN (Below.refl _ _) q).mono B2.out.size)); clear hw))
  go_ret
  exact ⟨rfl, B3.out⟩
theorem plays_long (t : Int) (A : Option Addr) (c : Nat) (ds : List DD) (w : World) (hl : 200 < ds.length) :
    Calls Try.prog 6 #[.int .i64 t, .slice A ds.length c] w fun e w' => e = .returned (.bool true) ∧ Below w.heap.size w w' := by
  go_enter Try.func6, Try.ntmps6
  go_wp2_with (go_at_call 9; refine (sane_calls _).mono ?_; rintro e w5 ⟨rfl, hb⟩; have B5 := Aside0.mk hb; clear hb)
  go_ret
  exact ⟨rfl, B5.out⟩
theorem plays_none (t : Int) (A : Option Addr) (c : Nat) (ds : List DD) (w : World) (hl : ds.length ≤ 200) (h : t < 1 ∨ 4 < t) :
    Calls Try.prog 6 #[.int .i64 t, .slice A ds.length c] w fun e w' => e = .returned (.bool true) ∧ Below w.heap.size w w' := by
  have HN := Aside0.mk (new_bad t w h)
  have HN2 := Aside0.mk (rnew_bad t w h)
  have hb0 := fun W => bound_calls t W
  rw [if_neg (by omega), if_neg (by omega)] at hb0
  have HB0 := Aside0.mk hb0
  have hb1 := fun W => rbound_calls t W
  rw [if_neg (by omega), if_neg (by omega)] at hb1
  have HB1 := Aside0.mk hb1
  clear hb0 hb1
  go_enter Try.func6, Try.ntmps6
  go_wp2_with (first
    | (go_at_call 10; refine (HN.out).mono ?_; rintro e w1 ⟨rfl, hw⟩; rw [hw]; clear hw)
    | (go_at_call 18; refine (HN2.out).mono ?_; rintro e w1 ⟨rfl, hw⟩; rw [hw]; clear hw)
    | (go_at_call 17; refine ((HB0.out) _).mono ?_; rintro e w2 ⟨rfl, hw⟩; rw [hw]; clear hw)
    | (go_at_call 19; refine ((HB1.out) _).mono ?_; rintro e w2 ⟨rfl, hw⟩; rw [hw]; clear hw))
  go_loopg [13] 0 (fun gg v13 wr => v13 = .int .i64 0 ∧ w = wr)
  case atStart => exact ⟨rfl, rfl⟩
  case round =>
    obtain ⟨rfl, hw⟩ := hrel
    subst hw
    by_cases hl : 0 < ds.length
    all_goals
      go_wp2_with (go_at_call 9; refine (sane_calls _).mono ?_; rintro e w5 ⟨rfl, hb⟩; have B5 := Aside0.mk hb; clear hb)
      go_ret
      exact ⟨rfl, B5.out⟩
theorem man_under {B : Nat} {w w' : World} {g g2 : Nat} {A : Option Addr} {wv hv iv : Value} {ps : List (Nat × Nat)} {m : HM} (hm : Man B w g A wv m) (hk : Kept w w' (rfoot g2 hv iv ps)) (ha : Apart (foot g A wv) (rfoot g2 hv iv ps)) : Man B w' g A wv m :=
  man_keep hm (fun k hf => hk.2 k (hm.foot_lt k hf).2 (ha k hf))
theorem ref_under {B : Nat} {w w' : World} {g g2 : Nat} {A : Option Addr} {wv hv iv : Value} {ps : List (Nat × Nat)} {m : HM} (hr : Ref B w g2 hv iv ps m) (hk : Kept w w' (foot g A wv)) (ha : Apart (foot g A wv) (rfoot g2 hv iv ps)) : Ref B w' g2 hv iv ps m :=
  ref_keep hr (fun k hf => hk.2 k (hr.foot_lt k hf).2 (fun h => ha k h hf))
theorem apart_man {B : Nat} {w : World} {g g2 : Nat} {A : Option Addr} {wv wv' hv iv : Value} {ps : List (Nat × Nat)} {m : HM} (hr : Ref B w g2 hv iv ps m) (ha : Apart (foot g A wv) (rfoot g2 hv iv ps)) (hw : ∀ k, wv'.ownBlock = some k → wv.ownBlock = some k ∨ w.heap.size ≤ k) : Apart (foot g A wv') (rfoot g2 hv iv ps) := by
  intro k hf hf2
  have hlt := (hr.foot_lt k hf2).2
  rcases hf with h | h | h
  · exact ha k (.inl h) hf2
  · exact ha k (.inr (.inl h)) hf2
  · rcases hw k h with h | h
    · exact ha k (.inr (.inr h)) hf2
    · omega
theorem apart_ref {B : Nat} {w : World} {g g2 : Nat} {A : Option Addr} {wv hv iv hv' iv' : Value} {ps ps' : List (Nat × Nat)} {m : HM} (hm : Man B w g A wv m) (ha : Apart (foot g A wv) (rfoot g2 hv iv ps)) (hf : ∀ k, rfoot g2 hv' iv' ps' k → rfoot g2 hv iv ps k ∨ w.heap.size ≤ k) : Apart (foot g A wv) (rfoot g2 hv' iv' ps') := by
  intro k h1 h2
  have hlt := (hm.foot_lt k h1).2
  rcases hf k h2 with h | h
  · exact ha k h1 h
  · omega
/-- A row that is newer than all of the reference's manager. -/
theorem R_ref {B N : Nat} {w0 w w' : World} {g : Nat} {hv iv v : Value} {ps : List (Nat × Nat)} {m : HM} {xs : List Int} (h : Kd.R (Kd.int .i64) 3 w N (fun _ => True) v xs) (hr : Ref B w0 g hv iv ps m) (hN : w0.heap.size ≤ N) (hk : Kept w w' (rfoot g hv iv ps)) : Kd.R (Kd.int .i64) 3 w' N (fun _ => True) v xs := by
  refine Kd.R_mono (Kd.R_step (Kd.R_bound h) (fun k hk1 hlt => hk.2 k hlt (fun hf => ?_))) (fun _ _ => trivial)
  have := (hr.foot_lt k hf).2
  have := hk1.2.1
  omega
theorem plays_walk (n : Nat) (A : Option Addr) (c : Nat) (ds : List DD) (w : World) (hd : DeedsAt w A ds) (h1 : 1 ≤ n) (h4 : n ≤ 4) (hl : ds.length ≤ 200) :
    Calls Try.prog 6 #[.int .i64 n, .slice A ds.length c] w fun e w' => e = .returned (.bool true) ∧ Below w.heap.size w w' := by
  have HN := Aside0.mk (new_calls w.heap.size n w (Nat.le_refl _) h1 h4)
  have HN2 := Aside0.mk (fun W => rnew_calls n W h1 h4)
  have hb0 := fun W => bound_calls (n : Int) W
  rw [if_pos (by omega), if_pos (by omega)] at hb0
  have HB0 := Aside0.mk hb0
  have hb1 := fun W => rbound_calls (n : Int) W
  rw [if_pos (by omega), if_pos (by omega)] at hb1
  have HB1 := Aside0.mk hb1
  have HD := Aside0.mk hd
  have HS := Aside0.mk (playTo_succ (newM n) ds)
  have HG := Aside0.mk (play_good n ds)
  clear hd hb0 hb1
  go_enter Try.func6, Try.ntmps6
  go_wp2_with (first
    | (go_at_call 10; refine (HN.out).mono ?_; rintro e w1 ⟨g, Ag, wv1, rfl, hm, hb, _⟩; have M1 := Aside0.mk hm; have B1 := Aside0.mk hb; have hsz1 := hb.size; clear hm hb)
    | (go_at_call 18; refine (HN2.out w1).mono ?_; rintro e w2 ⟨g2, hv2, qs2, rfl, hr, hb⟩; have R2 := Aside0.mk hr; have M2 := Aside0.mk (M1.out.grow hb); have B2 := Aside0.mk (B1.out.trans (hb.mono B1.out.size)); have hsz2 := hb.size; have AP2 := Aside0.mk (show Apart (foot g Ag wv1) (rfoot g2 hv2 (.slice none 0 0) qs2) from fun k h1 h2 => absurd (hr.foot_lt k h2).1 (Nat.not_le.2 (M1.out.foot_lt k h1).2)); clear hr hb)
    | (go_at_call 17; refine ((HB0.out) _).mono ?_; rintro e w3 ⟨rfl, hw⟩; rw [hw]; clear hw)
    | (go_at_call 19; refine ((HB1.out) _).mono ?_; rintro e w3 ⟨rfl, hw⟩; rw [hw]; clear hw))
  go_loopg [13, 14, 15, 16, 17] ds.length (fun gg v13 v14 v15 v16 v17 wr => ∃ (ii : Nat) (wvk hvk ivk : Value) (ps : List (Nat × Nat)), ii ≤ ds.length ∧ ds.length - ii ≤ gg ∧ v13 = .int .i64 ii ∧ w1.heap.size ≤ wr.heap.size ∧ Aside0 (Man w.heap.size wr g Ag wvk (playTo (newM n) ds ii)) ∧ Aside0 (Ref w1.heap.size wr g2 hvk ivk ps (playTo (newM n) ds ii)) ∧ Aside0 (Apart (foot g Ag wvk) (rfoot g2 hvk ivk ps)) ∧ Aside0 (Below w.heap.size w wr))
  case atStart => exact ⟨0, _, _, _, _, Nat.zero_le _, by omega, rfl, hsz2, M2, R2, AP2, B2⟩
  case round =>
    clear M1 M2 R2 AP2 B1 B2
    obtain ⟨ii, wvk, hvk, ivk, ps, hii, hgi, rfl, hszr, M1, R1, AP1, B1⟩ := hrel
    by_cases hlt : ii < ds.length
    · obtain ⟨ad, rfl, e1, e2, e3, e4⟩ := HD.out.below B1.out ii hlt
      rw [add_field ad (ii * 4) 1 (by decide)] at e2
      rw [add_field ad (ii * 4) 2 (by decide)] at e3
      rw [add_field ad (ii * 4) 3 (by decide)] at e4
      have E4 := Aside0.mk (fun (W : World) (hW : Below w.heap.size w W) => HD.out.below hW ii hlt)
      obtain ⟨hg0, hn0⟩ := HG.out ii hii
      have hsn := HS.out ii hlt
      have hfew := few hg0 (by omega)
      have hdx := done_calls M1.out B1.out.size (by omega) ds[ii]!.d ds[ii]!.t ds[ii]!.k ds[ii]!.a
      have hdy := fun (W : World) (hR : Ref w1.heap.size W g2 hvk ivk ps (playTo (newM n) ds ii)) (hB : w1.heap.size ≤ W.heap.size) => told_calls hR (by omega) hB (by omega) ds[ii]!.d ds[ii]!.t ds[ii]!.k ds[ii]!.a
      rw [show (step1 (playTo (newM n) ds ii) ds[ii]!).1 = (deed (playTo (newM n) ds ii) ds[ii]!.d ds[ii]!.t ds[ii]!.k ds[ii]!.a).1 from rfl] at hsn
      obtain ⟨hg1, hn1⟩ := HG.out (ii + 1) (by omega)
      have hfew1 := few hg1 (by omega)
      have hrd := round_of hg0 M1.out.len hn0 h4 ds[ii]! (by rw [hs_deed, holdsP_len, M1.out.len, deed_n])
      have hsm := hrd.small
      generalize ds[ii]! = x at *
      generalize hG1 : playTo (newM n) ds (ii + 1) = S1 at *
      have HG1e := Aside0.mk hG1
      clear hG1 hrd
      generalize playTo (newM n) ds ii = S0 at *
      obtain ⟨bk, er, hde⟩ : ∃ bk er, deed S0 x.d x.t x.k x.a = (S1, bk, er) := ⟨_, _, Prod.ext hsn.symm rfl⟩
      rw [hde] at hdx hsm
      simp only at hsm
      have hdy2 : ∀ W, Ref w1.heap.size W g2 hvk ivk ps S0 → w1.heap.size ≤ W.heap.size → Calls Try.prog 20 #[.pointer (some ⟨g2, 0, none⟩), .agg #[.int .i64 x.d, .int .i64 x.t, .int .i64 x.k, .int .i64 x.a]] W (ToldR w1.heap.size W g2 hvk ivk ps (S1, bk, er)) := fun W hR hB => by rw [← hde]; exact hdy W hR hB
      have HDX := Aside0.mk hdx
      have HDY := Aside0.mk hdy2
      clear hdx hdy hdy2 hde hsn hg0 hg1 hfew
      go_wp2_with (first
        | (go_at_call 11; refine (HDX.out).mono ?_; rintro e w3 ⟨v3, rfl, hr, wv3, hm, hk, hb, hw⟩; obtain ⟨A3, c3, rfl⟩ := Kd.R_slice hr; have Q3 := Aside0.mk hr; have M3 := Aside0.mk hm; have R3 := Aside0.mk (ref_under R1.out hk AP1.out); have AP3 := Aside0.mk (apart_man R1.out AP1.out hw); have B3 := Aside0.mk (B1.out.trans hb); have hsz3 := hk.1; clear hr hm hk hb hw e1 e2 e3 e4; obtain ⟨ad', ead, e1, e2, e3, e4⟩ := E4.out _ B3.out; obtain rfl : ad = ad' := Option.some.inj ead; rw [add_field ad (ii * 4) 1 (by decide)] at e2; rw [add_field ad (ii * 4) 2 (by decide)] at e3; rw [add_field ad (ii * 4) 3 (by decide)] at e4; clear ead)
        | (go_at_call 20; refine (HDY.out w3 R3.out (by omega)).mono ?_; rintro e w4 ⟨v4, rfl, hr, hv4, iv4, ps4, hR4, hk, hb, hf⟩; obtain ⟨A4, c4, rfl⟩ := Kd.R_slice hr; have Q4 := Aside0.mk hr; have Q34 := Aside0.mk (R_ref Q3.out R1.out (Nat.le_refl _) hk); have M4 := Aside0.mk (man_under M3.out hk AP3.out); have R4 := Aside0.mk hR4; have AP4 := Aside0.mk (apart_ref M3.out AP3.out hf); have B4 := Aside0.mk (B3.out.trans (hb.mono hsz1)); have hsz4 := hk.1; clear hr hR4 hk hb hf e1 e2 e3 e4)
        | (go_at_call 16; refine (intsEq A3 A4 c3 c4 bk bk _ (reads_R Q34.out) (reads_R Q4.out) hsm).mono ?_; rw [decide_eq_true (rfl : bk = bk)]; rintro e w5 ⟨rfl, q, hw⟩; have hbq : Below w4.heap.size w4 w5 := (by rw [hw]; exact pw_below_drewN (Below.refl _ _) q); have M5 := Aside0.mk (M4.out.grow hbq); have R5 := Aside0.mk (R4.out.grow hbq); have B5 := Aside0.mk (B4.out.trans (hbq.mono B4.out.size)); have hsz5 := hbq.size; clear hw hbq)
        | (go_at_call 21; refine (alike_calls M5.out R5.out (by omega)).mono ?_; rintro e w6 ⟨rfl, hb⟩; have M6 := Aside0.mk (M5.out.grow hb); have R6 := Aside0.mk (R5.out.grow hb); have B6 := Aside0.mk (B5.out.trans (hb.mono B5.out.size)); have hsz6 := hb.size; clear hb))
      go_roundg (ds.length - (ii + 1))
      case measure => omega
      case rel => exact ⟨ii + 1, _, _, _, _, by omega, by omega, by go_num, by omega, ⟨by rw [HG1e.out]; exact M6.out⟩, ⟨by rw [HG1e.out]; exact R6.out⟩, AP4, B6⟩
    · go_wp2_with (go_at_call 9; refine (sane_calls _).mono ?_; rintro e w5 ⟨rfl, hb⟩; have B5 := Aside0.mk (B1.out.trans (hb.mono B1.out.size)); clear hb)
      go_ret
      exact ⟨rfl, B5.out⟩
theorem plays_row (t : Int) (A : Option Addr) (len c : Nat) (ds : List DD) (w : World) (_ht : (Lit.int .i64 t).wf = true) (hd : ds.length = len ∧ DeedsAt w A ds) :
    Calls Try.prog 6 #[.int .i64 t, .slice A len c] w fun e w' => e = .returned (.bool true) ∧ Below w.heap.size w w' := by
  obtain ⟨rfl, hd⟩ := hd
  by_cases hl : ds.length ≤ 200
  · by_cases h : 1 ≤ t ∧ t ≤ 4
    · obtain ⟨n, rfl⟩ := Int.eq_ofNat_of_zero_le (show 0 ≤ t by omega)
      exact plays_walk n A c ds w hd (by omega) (by omega) hl
    · exact plays_none t A c ds w hl (by omega)
  · exact plays_long t A c ds w (by omega)
end Go.Proofs.Ytgdadefobhfkcaa.Hy
