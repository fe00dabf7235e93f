/- The walk of HazardOnce: plain lemmas; no condition. -/
import Derived.Test.YtgdadefobhfkcaaHz15
import Derived.Test.YtgdadefobhfkcaaHzQ
namespace Go.Proofs.Ytgdadefobhfkcaa.Hz
open Go.RowKit Go.Proofs.YtgdadefobhfkcaaW.PrintWords Go.Proofs.YtgdadefobhfkcaaW.PrintLast Go.Proofs.YtgdadefobhfkcaaW.PrintMore
set_option linter.unusedVariables false
set_option linter.unusedSimpArgs false
theorem less_has {l0 back l1 : List Int} (h : Parts l0 back l1) (j : Nat) (hj : j < back.length) : (less l0 back j).contains (back.getD j 0) = true := by
  have e : back.getD j 0 = back[j] := by simp [hj]
  rw [e, List.contains_iff_mem]
  unfold less
  refine List.mem_filter.2 ⟨h.mem _ (List.getElem_mem hj), ?_⟩
  simp only [Bool.not_eq_true']
  rw [Bool.eq_false_iff]
  intro hc
  rw [List.contains_iff_mem] at hc
  obtain ⟨i, hi, e2⟩ := List.mem_iff_getElem.1 hc
  have hi2 : i < j := by simp at hi; omega
  rw [List.getElem_take] at e2
  exact List.pairwise_iff_getElem.1 h.nd i j (by omega) hj hi2 e2
theorem less_all {l0 back l1 : List Int} (h : Parts l0 back l1) : less l0 back back.length = l1 := by
  unfold less
  rw [List.take_length, h.left]
theorem less_len (l0 back : List Int) (j : Nat) : (less l0 back j).length ≤ l0.length := List.length_filter_le _ _
theorem own1_len (m : HM) (d t k a : Int) : (own1 m d t k a).length ≤ m.ws.length + 1 := by
  unfold own1
  split <;> simp
theorem parts_len {l0 back l1 : List Int} (h : Parts l0 back l1) : back.length ≤ l0.length := nodup_le _ _ h.nd h.mem
set_option maxHeartbeats 8000000 in
set_option maxRecDepth 100000 in
theorem once_walk (n : Nat) (A : Option Addr) (c : Nat) (ds : List DD) (w : World) (hd : DeedsAt w A ds) (h1 : 1 ≤ n) (h4 : n ≤ 4) (hl : ds.length ≤ 200) :
    Calls Try.prog 4 #[.int .i64 n, .slice A ds.length c] w fun e w' => e = .returned (.bool true) ∧ Below w.heap.size w w' := by
  have hnew := new_calls w.heap.size n w (Nat.le_refl _) h1 h4
  have HD := Aside0.mk hd
  have HN := Aside0.mk hnew
  have HS := Aside0.mk (playTo_succ (newM n) ds)
  have HG := Aside0.mk (play_good n ds)
  have hcases : n = 1 ∨ n = 2 ∨ n = 3 ∨ n = 4 := by omega
  have hP : ∀ k, k ≤ ds.length → (playTo (newM n) ds k).ws.length ≤ 48 := fun k hk => by
    have := play_bound n ds k hk
    rcases hcases with rfl | rfl | rfl | rfl <;> omega
  have HP := Aside0.mk hP
  clear hd hnew hP hcases
  go_enter Try.func4, Try.ntmps4
  go_wp2_with (go_at_call 10; refine (HN.out).mono ?_; rintro e w1 ⟨g, Ag, wv1, rfl, hm, hb, _⟩; have M1 := Aside0.mk hm; have B1 := Aside0.mk hb; clear hm hb)
  go_loopg [7, 8] ds.length (fun gg v7 v8 wr => ∃ (kk : Nat) (wvk : Value), kk ≤ ds.length ∧ ds.length - kk ≤ gg ∧ v8 = .int .i64 kk ∧ Aside0 (Man w.heap.size wr g Ag wvk (playTo (newM n) ds kk)) ∧ Aside0 (Below w.heap.size w wr) ∧ Aside0 (Kd.R (Kd.int .i64) 3 wr w.heap.size (fun _ => True) v7 ((playTo (newM n) ds kk).ws.map (·.2))))
  case atStart => exact ⟨0, _, Nat.zero_le _, by omega, rfl, M1, B1, ⟨Kd.R_nil _ _ _ _ _⟩⟩
  case round =>
    clear M1 B1
    obtain ⟨kk, wvk, hkk, hgg, rfl, M1, B1, R1⟩ := hrel
    by_cases hlt : kk < ds.length
    · obtain ⟨ad, rfl, e1, e2, e3, e4⟩ := HD.out.below B1.out kk hlt
      rw [add_field ad (kk * 4) 1 (by decide)] at e2
      rw [add_field ad (kk * 4) 2 (by decide)] at e3
      rw [add_field ad (kk * 4) 3 (by decide)] at e4
      have hlen := HP.out kk hkk
      have hlen2 := HP.out (kk + 1) hlt
      have hsn := HS.out kk hlt
      have hgood := (HG.out kk hkk).1
      have hdone := done_calls M1.out B1.out.size (by omega) ds[kk]!.d ds[kk]!.t ds[kk]!.k ds[kk]!.a
      have hparts := parts_deed hgood ds[kk]!.d ds[kk]!.t ds[kk]!.k ds[kk]!.a
      have hol := own1_len (playTo (newM n) ds kk) ds[kk]!.d ds[kk]!.t ds[kk]!.k ds[kk]!.a
      have hbl := parts_len hparts
      have hown : own1 (playTo (newM n) ds kk) ds[kk]!.d ds[kk]!.t ds[kk]!.k ds[kk]!.a = if ds[kk]!.d = 4 ∧ (deed (playTo (newM n) ds kk) ds[kk]!.d ds[kk]!.t ds[kk]!.k ds[kk]!.a).2.2 = 0 then (playTo (newM n) ds kk).ws.map (·.2) ++ [ds[kk]!.a] else (playTo (newM n) ds kk).ws.map (·.2) := rfl
      have hsn2 : playTo (newM n) ds (kk + 1) = (deed (playTo (newM n) ds kk) ds[kk]!.d ds[kk]!.t ds[kk]!.k ds[kk]!.a).1 := hsn
      rw [← hsn2] at hparts
      have hml : ((playTo (newM n) ds kk).ws.map (·.2)).length ≤ 48 := by simpa using hlen
      have hml2 : ((playTo (newM n) ds (kk + 1)).ws.map (·.2)).length ≤ 48 := by simpa using hlen2
      have hdone2 : Calls Try.prog 11 #[.pointer (some ⟨g, 0, none⟩), .agg #[.int .i64 ds[kk]!.d, .int .i64 ds[kk]!.t, .int .i64 ds[kk]!.k, .int .i64 ds[kk]!.a]] wr fun e w' => ∃ A3 c3 wv3, e = .returned (.tuple #[.slice A3 (deed (playTo (newM n) ds kk) ds[kk]!.d ds[kk]!.t ds[kk]!.k ds[kk]!.a).2.1.length c3, .int .i64 (deed (playTo (newM n) ds kk) ds[kk]!.d ds[kk]!.t ds[kk]!.k ds[kk]!.a).2.2]) ∧
          Man w.heap.size w' g Ag wv3 (playTo (newM n) ds (kk + 1)) ∧ Below w.heap.size w w' ∧ Kd.R (Kd.int .i64) 3 w' wr.heap.size (fun _ => True) (.slice A3 (deed (playTo (newM n) ds kk) ds[kk]!.d ds[kk]!.t ds[kk]!.k ds[kk]!.a).2.1.length c3) (deed (playTo (newM n) ds kk) ds[kk]!.d ds[kk]!.t ds[kk]!.k ds[kk]!.a).2.1 ∧ Kd.R (Kd.int .i64) 3 w' w.heap.size (fun _ => True) u7 ((playTo (newM n) ds kk).ws.map (·.2)) ∧ (∀ k, u7.ownBlock = some k → k < wr.heap.size) ∧ w'.cell? (ad.add (kk * 4)) = some (.int .i64 ds[kk]!.d) ∧ w'.cell? ⟨(ad.add (kk * 4)).block, (ad.add (kk * 4)).off + 3, none⟩ = some (.int .i64 ds[kk]!.a) := by
        refine hdone.mono ?_
        rintro e w' ⟨v, rfl, hr, wv3, hm, hk, hb, _⟩
        obtain ⟨A3, c3, rfl⟩ := Kd.R_slice hr
        obtain ⟨ad2, q2, e12, _, _, e42⟩ := HD.out.below (B1.out.trans hb) kk hlt
        injection q2 with q2
        subst q2
        rw [add_field ad (kk * 4) 3 (by decide)] at e42
        refine ⟨A3, c3, wv3, rfl, ?_, B1.out.trans hb, hr, R_deed R1.out M1.out hk, fun k hk => ?_, e12, e42⟩
        · rw [hsn2]; exact hm
        · obtain ⟨inner, ho⟩ := Kd.R_own R1.out
          exact own_lt ho k hk
      have HDN := Aside0.mk hdone2
      have HPA := Aside0.mk hparts
      have hbl2 : (deed (playTo (newM n) ds kk) ds[kk]!.d ds[kk]!.t ds[kk]!.k ds[kk]!.a).2.1.length ≤ 49 := by omega
      clear hsn hsn2 hdone hdone2 hparts hgood hlen hlen2 M1 hbl R1
      generalize own1 (playTo (newM n) ds kk) ds[kk]!.d ds[kk]!.t ds[kk]!.k ds[kk]!.a = L0 at *
      generalize (deed (playTo (newM n) ds kk) ds[kk]!.d ds[kk]!.t ds[kk]!.k ds[kk]!.a).2.1 = back at *
      generalize (deed (playTo (newM n) ds kk) ds[kk]!.d ds[kk]!.t ds[kk]!.k ds[kk]!.a).2.2 = er at *
      generalize (playTo (newM n) ds kk).ws.map (·.2) = L at *
      generalize ds[kk]! = x at *
      have hL0 : L0.length ≤ 49 := by rw [hown]; split <;> first | (simp; omega) | omega
      have hstep : ((x.d = 4 ∧ er = 0) → L0 = L ++ [x.a]) ∧ (¬ (x.d = 4 ∧ er = 0) → L0 = L) := ⟨fun h => by rw [hown, if_pos h], fun h => by rw [hown, if_neg h]⟩
      obtain ⟨hst1, hst2⟩ := hstep
      clear hown hol
      have f48 : er = 0 ∨ (er == 0) = false := by
        by_cases h : er = 0
        · exact .inl h
        · exact .inr (by simpa using h)
      have f4 : (x.d == 4) = true ∨ (x.d == 4) = false := by cases x.d == 4 <;> simp
      have key : ((x.d == 4) = true ∧ er = 0 ∧ Aside0 (L0 = L ++ [x.a])) ∨ ((x.d == 4) = true ∧ (er == 0) = false ∧ Aside0 (L0 = L)) ∨ ((x.d == 4) = false ∧ Aside0 (L0 = L)) := by
        rcases f4 with f4 | f4
        · rcases f48 with f48 | f48
          · exact .inl ⟨f4, f48, ⟨hst1 ⟨by simpa using f4, f48⟩⟩⟩
          · exact .inr (.inl ⟨f4, f48, ⟨hst2 (fun h => by simp [h.2] at f48)⟩⟩)
        · exact .inr (.inr ⟨f4, ⟨hst2 (fun h => by simp [h.1] at f4)⟩⟩)
      clear f4 f48 hst1 hst2
      obtain ⟨wo, hwo⟩ : ∃ wo : World, wo = wr := ⟨_, rfl⟩
      subst hwo
      rcases key with ⟨f1, rfl, HOW⟩ | ⟨f1, f2, HOW⟩ | ⟨f1, HOW⟩
      case' inl =>
        go_wp2_with (first
          | (go_at_call 11; refine (HDN.out).mono ?_; rintro e w3 ⟨A3, c3, wv3, rfl, p1, p2, p3, p4, p5, p6, p7⟩; have M3 := Aside0.mk p1; have BW := Aside0.mk p2; have RB := Aside0.mk p3; have RW := Aside0.mk p4; have OL := Aside0.mk p5; clear p1 p2 p3 p4 p5)
          | ((with_reducible refine gate_builtin (b := .append) (xs := #[.tmp 50, .tmp 56]) rfl ?_); at_builtin; refine Kd.R_append (Kd.int .i64) (w0 := w3) w.heap.size rfl (.tmp 50) (.tmp 56) 29 3 (.int .i64 0) 8 rfl Try.underlying29 info3 rfl (by decide) (by omega) u7 L x.a [.int .i64 x.a] (fun _ => True) (fun _ => False) rfl rfl ?aP (fun _ hk => hk.elim) (fun _ _ => trivial) RW.out (Below.refl _ _) BW.out.size (by omega) ?_; (case aP => exact rfl); intro V W ho hb hg hat; have RW2 := Aside0.mk ho; have HG := Aside0.mk hg; have HBN := Aside0.mk hb; clear ho hb hg hat))
        have MW := Aside0.mk (man_app M3.out RW.out HG.out)
        have BB := Aside0.mk (BW.out.trans HBN.out)
        have RBk : Aside0 (Kd.R (Kd.int .i64) 3 W wo.heap.size (fun _ => True) (.slice A3 back.length c3) back) := ⟨Kd.R_mono (Kd.R_grown (Kd.R_bound RB.out) HG.out (fun k hk he => by have := OL.out k he.symm; have := hk.2.1; omega)) (fun _ _ => trivial)⟩
        rw [← HOW.out] at RW2
        clear HG HBN RB RW M3 BW OL p6 p7
      case' inr.inl =>
        go_wp2_with (go_at_call 11; refine (HDN.out).mono ?_; rintro e w3 ⟨A3, c3, wv3, rfl, p1, p2, p3, p4, p5, p6, p7⟩; have M3 := Aside0.mk p1; have BW := Aside0.mk p2; have RB := Aside0.mk p3; have RW := Aside0.mk p4; have OL := Aside0.mk p5; clear p1 p2 p3 p4 p5)
        have MW := M3
        have BB := BW
        have RBk := RB
        rw [← HOW.out] at RW
        have RW2 := RW
        clear RB RW M3 BW OL p6 p7
        obtain ⟨W, hW⟩ : ∃ W : World, W = w3 := ⟨_, rfl⟩
        subst hW
        obtain ⟨V, hV⟩ : ∃ V : Value, V = u7 := ⟨_, rfl⟩
        subst hV
      case' inr.inr =>
        go_wp2_with (go_at_call 11; refine (HDN.out).mono ?_; rintro e w3 ⟨A3, c3, wv3, rfl, p1, p2, p3, p4, p5, p6, p7⟩; have M3 := Aside0.mk p1; have BW := Aside0.mk p2; have RB := Aside0.mk p3; have RW := Aside0.mk p4; have OL := Aside0.mk p5; clear p1 p2 p3 p4 p5)
        have MW := M3
        have BB := BW
        have RBk := RB
        rw [← HOW.out] at RW
        have RW2 := RW
        clear RB RW M3 BW OL p6 p7
        obtain ⟨W, hW⟩ : ∃ W : World, W = w3 := ⟨_, rfl⟩
        subst hW
        obtain ⟨V, hV⟩ : ∃ V : Value, V = u7 := ⟨_, rfl⟩
        subst hV
      all_goals
        clear HOW HDN B1
        have HBW := Aside0.mk (Below.refl W.heap.size W)
        go_loopg [7, 11] back.length (fun gg v7 v11 wr => ∃ jj : Nat, jj ≤ back.length ∧ back.length - jj ≤ gg ∧ v11 = .int .i64 jj ∧ Aside0 (Below W.heap.size W wr) ∧ Aside0 (Kd.R (Kd.int .i64) 3 wr w.heap.size (fun _ => True) v7 (less L0 back jj)))
        case atStart => exact ⟨0, Nat.zero_le _, by omega, rfl, HBW, ⟨by rw [less_zero]; exact RW2.out⟩⟩
        case round =>
          clear HBW RW2
          obtain ⟨jj, hjj, hg2, rfl, HBW, RW2⟩ := hrel
          obtain ⟨A7, c7, rfl⟩ := Kd.R_slice RW2.out
          have hll := less_len L0 back jj
          by_cases hj : jj < back.length
          · obtain ⟨ab, rfl, hcb⟩ := reads_R (Kd.R_below RBk.out HBW.out) jj hj
            have hhas := has_calls A7 c7 (less L0 back jj) (back.getD jj 0) wr (reads_R RW2.out) (by omega)
            rw [less_has HPA.out jj hj] at hhas
            have hwi := without_calls A7 c7 (less L0 back jj) (back.getD jj 0) wr (reads_R RW2.out) (by omega)
            rw [less_succ L0 back jj hj] at hwi
            have HHA := Aside0.mk hhas
            have HWI := Aside0.mk hwi
            clear hhas hwi
            generalize back.getD jj 0 = y at *
            generalize (less L0 back jj).length = ln at *
            go_wp2_with (first
              | (go_at_call 14; refine (HHA.out).mono ?_; rintro e w5 ⟨rfl, rfl⟩)
              | (go_at_call 15; refine (HWI.out).mono ?_; rintro e w5 ⟨v5, rfl, hr, hb⟩; have R5 := Aside0.mk (Kd.R_lower hr (Nat.le_trans BB.out.size HBW.out.size)); have B5 := Aside0.mk (HBW.out.trans (hb.mono HBW.out.size)); clear hr hb))
            go_roundg (back.length - (jj + 1))
            case measure => omega
            case rel => exact ⟨jj + 1, by omega, by omega, by go_num, B5, R5⟩
          · have hj2 : jj = back.length := by omega
            subst hj2
            have hln : less L0 back back.length = (playTo (newM n) ds (kk + 1)).ws.map (·.2) := less_all HPA.out
            rw [hln] at hll RW2
            rw [hln]
            have MR := Aside0.mk (MW.out.grow HBW.out)
            have hwt := waiting_calls MR.out (by have := HP.out (kk + 1) hlt; omega)
            have HWT := Aside0.mk hwt
            have R7 := RW2
            clear hwt hln RW2
            have hlL : ((playTo (newM n) ds (kk + 1)).ws.map (·.2)).length ≤ 1000000 := by omega
            generalize hLL : (playTo (newM n) ds (kk + 1)).ws.map (·.2) = LL at *
            have HLL := Aside0.mk hLL
            clear hLL
            go_wp2_with (first
              | (go_at_call 13; refine (HWT.out).mono ?_; rintro e w6 ⟨v, rfl, hr, hb⟩; obtain ⟨A6, c6, rfl⟩ := Kd.R_slice hr; have R6 := Aside0.mk hr; have M6 := Aside0.mk (MR.out.grow hb); have B6 := Aside0.mk (BB.out.trans ((HBW.out.trans (hb.mono HBW.out.size)).mono BB.out.size)); have R76 := Aside0.mk (Kd.R_below R7.out hb); clear hr hb)
              | (go_at_call 16; refine (intsEq A6 A7 c6 c7 LL LL _ (reads_R R6.out) (reads_R R76.out) hlL).mono ?_; rw [decide_eq_true (rfl : LL = LL)]; rintro e w7 ⟨rfl, q, rfl⟩))
            go_roundg (ds.length - (kk + 1))
            case measure => omega
            case rel => exact ⟨kk + 1, _, by omega, by omega, by go_num, ⟨M6.out.grow (pw_below_drewN (Below.refl _ _) _)⟩, ⟨pw_below_drewN B6.out _⟩, ⟨by rw [HLL.out]; exact Kd.R_below R76.out (pw_below_drewN (Below.refl _ _) _)⟩⟩
    · go_wp2_with (go_at_call 9; refine (sane_calls _).mono ?_; rintro e w5 ⟨rfl, hb⟩; have B5 := Aside0.mk (B1.out.trans (hb.mono B1.out.size)); clear hb)
      go_ret
      exact ⟨rfl, B5.out⟩
set_option maxHeartbeats 8000000 in
set_option maxRecDepth 100000 in
theorem once_long (t : Int) (A : Option Addr) (c : Nat) (ds : List DD) (w : World) (hl : 200 < ds.length) :
    Calls Try.prog 4 #[.int .i64 t, .slice A ds.length c] w fun e w' => e = .returned (.bool true) ∧ Below w.heap.size w w' := by
  go_enter Try.func4, Try.ntmps4
  go_wp2_with (go_at_call 9; refine (sane_calls _).mono ?_; rintro e w5 ⟨rfl, hb⟩; have B5 := Aside0.mk hb; clear hb)
  go_ret
  exact ⟨rfl, B5.out⟩
set_option maxHeartbeats 8000000 in
set_option maxRecDepth 100000 in
theorem once_none (t : Int) (A : Option Addr) (c : Nat) (ds : List DD) (w : World) (hl : ds.length ≤ 200) (h : t < 1 ∨ 4 < t) :
    Calls Try.prog 4 #[.int .i64 t, .slice A ds.length c] w fun e w' => e = .returned (.bool true) ∧ Below w.heap.size w w' := by
  have HN := Aside0.mk (new_bad t w h)
  go_enter Try.func4, Try.ntmps4
  go_wp2_with (go_at_call 10; refine (HN.out).mono ?_; rintro e w1 ⟨rfl, hw⟩; rw [hw]; clear hw)
  go_loopg [8] 0 (fun gg v8 wr => v8 = .int .i64 0 ∧ w = wr)
  case atStart => exact ⟨rfl, rfl⟩
  case round =>
    obtain ⟨rfl, rfl⟩ := hrel
    go_wp2_with (go_at_call 9; refine (sane_calls _).mono ?_; rintro e w5 ⟨rfl, hb⟩; have B5 := Aside0.mk hb; clear hb)
    all_goals go_ret
    all_goals exact ⟨rfl, B5.out⟩
theorem once_any (t : Int) (A : Option Addr) (len c : Nat) (ds : List DD) (w : World) (hd : ds.length = len ∧ DeedsAt w A ds) :
    Calls Try.prog 4 #[.int .i64 t, .slice A len c] w fun e w' => e = .returned (.bool true) ∧ Below w.heap.size w w' := by
  obtain ⟨rfl, hd⟩ := hd
  by_cases hl : ds.length ≤ 200
  · by_cases h : 1 ≤ t ∧ t ≤ 4
    · obtain ⟨n, rfl⟩ := Int.eq_ofNat_of_zero_le (show 0 ≤ t by omega)
      exact once_walk n A c ds w hd (by omega) (by omega) hl
    · exact once_none t A c ds w hl (by omega)
  · exact once_long t A c ds w (by omega)
theorem once_row (t : Int) (A : Option Addr) (len c : Nat) (ds : List DD) (w : World) (_ht : (Lit.int .i64 t).wf = true) (hd : ds.length = len ∧ DeedsAt w A ds) :
    Calls Try.prog 4 #[.int .i64 t, .slice A len c] w fun e w' => e = .returned (.bool true) ∧ Below w.heap.size w w' := once_any t A len c ds w hd
end Go.Proofs.Ytgdadefobhfkcaa.Hz
