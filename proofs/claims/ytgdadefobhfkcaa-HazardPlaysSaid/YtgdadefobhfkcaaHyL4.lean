/- The reference's manager: Retire: plain lemmas; no condition. -/
import Derived.Test.YtgdadefobhfkcaaHyL3
namespace Go.Proofs.Ytgdadefobhfkcaa.Hy
open Go.RowKit Go.Proofs.YtgdadefobhfkcaaW.PrintWords Go.Proofs.YtgdadefobhfkcaaW.PrintLast Go.Proofs.YtgdadefobhfkcaaW.PrintMore
set_option linter.unusedVariables false
set_option linter.unusedSimpArgs false
set_option maxHeartbeats 8000000
set_option maxRecDepth 100000
section
variable {B : Nat} {w w' W2 : World} {g : Nat} {hv iv iv' : Value} {ps : List (Nat × Nat)} {m m' : HM}
theorem afterR_then {v1 : Value} (hk : Kept w W2 (rfoot g hv iv ps)) (hb : Below B w W2) (hf : ∀ k, rfoot g hv v1 ps k → rfoot g hv iv ps k ∨ w.heap.size ≤ k) (h : AfterR B W2 g hv v1 ps m' w') : AfterR B w g hv iv ps m' w' := by
  obtain ⟨hv', iv', ps', hr, hk2, hb2, hf2⟩ := h
  refine ⟨hv', iv', ps', hr, hk.then_ hk2 hf, hb.trans hb2, fun k h => ?_⟩
  rcases hf2 k h with h | h
  · exact hf k h
  · exact .inr (Nat.le_trans hk.1 h)
theorem retired_top {wn : World} (h : Ref B w g hv iv ps m) (hg : w.grownBy wn iv.ownBlock) : wn.heap[g]? = some (.cells #[.int .i64 m.n, hv, iv] 64 (0, 0)) := by
  have h1 := h
  refine (hg.block g (blk_lt h1.top) (fun e => ?_)).trans h1.top
  obtain ⟨c, hc⟩ := Kd.R_typed h1.it g e.symm
  exact ne_of_tag h1.top hc (by decide) rfl
theorem kept_retired {wn : World} {v1 : Value} (hg : w.grownBy wn iv.ownBlock) : Kept w (wn.setCell ⟨g, 2, none⟩ v1) (rfoot g hv iv ps) :=
  (Kept.of_grown hg (Kept.refl w _) (fun k e => .inl (.inr (.inr (.inl e))))).setCell (p := ⟨g, 2, none⟩) (.inl (.inl rfl)) _
theorem foot_retired {v1 : Value} (hat : v1.ownBlock = iv.ownBlock ∨ ∃ b, v1.ownBlock = some b ∧ w.heap.size ≤ b) : ∀ k, rfoot g hv v1 ps k → rfoot g hv iv ps k ∨ w.heap.size ≤ k := by
  intro k h
  rcases h with h | h | h | h
  · exact .inl (.inl h)
  · exact .inl (.inr (.inl h))
  · rcases hat with e | ⟨b, e, hb⟩
    · exact .inl (.inr (.inr (.inl (e ▸ h))))
    · rw [e] at h; injection h with h; exact .inr (by omega)
  · exact .inl (.inr (.inr (.inr h)))
theorem rretire_bad (h : Ref B w g hv iv ps m) (hB : B ≤ w.heap.size) (t a : Int) (hx : (bad m t || decide (a < 1)) = true) :
    Calls Try.prog 35 #[.pointer (some ⟨g, 0, none⟩), .int .i64 t, .int .i64 a] w (ToldR B w g hv iv ps (m, [], 1)) := by
  have HT := Aside0.mk (isThread_calls h t)
  have H := Aside0.mk (toldR_same h hB 1)
  clear h
  cases hb : bad m t with
  | true =>
    rw [hb] at HT
    clear hx hb
    go_enter Try.func35, Try.ntmps35
    go_wp2_with (go_at_call 45; refine (HT.out).mono ?_; rintro e w' ⟨rfl, rfl⟩)
    go_ret2
    exact H.out
  | false =>
    rw [hb] at HT hx
    have ha : a ≤ 0 := by simp at hx; omega
    clear hx hb
    go_enter Try.func35, Try.ntmps35
    go_wp2_with (go_at_call 45; refine (HT.out).mono ?_; rintro e w' ⟨rfl, rfl⟩)
    go_ret2
    exact H.out
def RetPost (B : Nat) (w : World) (g : Nat) (hv iv : Value) (ps : List (Nat × Nat)) (m : HM) (t a : Int) : Ending → World → Prop :=
  ToldR B w g hv iv ps (if (m.ws.any fun x => x.2 == a) = true then (m, [], 6) else if mine (retired m t a) t ≤ 3 * m.n then (retired m t a, [], 0) else (scanned (retired m t a) t, backs (retired m t a) t, 0))
theorem rretire_good (h : Ref B w g hv iv ps m) (hB : B ≤ w.heap.size) (hl : m.ws.length ≤ 99999) (t a : Int) (hx : bad m t = false) (ha : ¬ a < 1) :
    Calls Try.prog 35 #[.pointer (some ⟨g, 0, none⟩), .int .i64 t, .int .i64 a] w (RetPost B w g hv iv ps m t a) := by
  have HT := Aside0.mk (isThread_calls h t)
  rw [hx] at HT
  have c2 := h.c2
  have c0 := h.c0
  have hsm := h.small
  have H6 := Aside0.mk (fun (e : (m.ws.any fun x => x.2 == a) = true) => (show RetPost B w g hv iv ps m t a (.returned (.tuple #[.slice none 0 0, .int .i64 6])) w from by unfold RetPost; rw [if_pos e]; exact toldR_same h hB 6))
  have H0 := Aside0.mk (fun (e : (m.ws.any fun x => x.2 == a) = false) => (show RetPost B w g hv iv ps m t a = ToldR B w g hv iv ps (if mine (retired m t a) t ≤ 3 * m.n then (retired m t a, [], 0) else (scanned (retired m t a) t, backs (retired m t a) t, 0)) from by unfold RetPost; rw [if_neg (by rw [e]; decide)]))
  have HAN := Aside0.mk (any_none m.ws a)
  have HAF := Aside0.mk (any_first m.ws a)
  have HC := Aside0.mk (take_mine t m.ws)
  have HCL := Aside0.mk (show ∀ k, ((m.ws.take k).filter fun x => x.1 == t).length ≤ 99999 from fun k => Nat.le_trans (List.length_filter_le _ _) (by rw [List.length_take]; omega))
  have HM := Aside0.mk (show mine (retired m t a) t = ((m.ws.take m.ws.length).filter fun x => x.1 == t).length + 1 by unfold mine retired; simp [List.filter_append])
  have HREF := Aside0.mk h
  obtain ⟨Ai, ci, rfl⟩ := Kd.R_slice h.it
  have HI := Aside0.mk h.it
  have hd1 : ¬ a ≤ 0 := by omega
  obtain ⟨L, hL⟩ : ∃ L, L = m.ws.length := ⟨_, rfl⟩
  rw [← hL] at hl c2 HAN HAF HC HM HREF HI
  have HLL := Aside0.mk hL
  obtain ⟨F, hF⟩ : ∃ F : Nat → Nat, ∀ k, F k = ((m.ws.take k).filter fun x => x.1 == t).length := ⟨_, fun _ => rfl⟩
  simp only [← hF] at HC HCL HM
  have HF0 := Aside0.mk (show F 0 = 0 by rw [hF]; rfl)
  generalize hR : RetPost B w g hv (.slice Ai m.ws.length ci) ps m t a = RP at *
  have HRP := Aside0.mk hR
  clear h hx ha hL hF hR
  go_enter Try.func35, Try.ntmps35
  go_wp2_with (go_at_call 45; refine (HT.out).mono ?_; rintro e w' ⟨rfl, hw⟩; rw [hw]; clear hw)
  go_loopg [8, 9] L (fun gg v8 v9 wr => ∃ kk : Nat, kk ≤ L ∧ L - kk ≤ gg ∧ v9 = .int .i64 kk ∧ v8 = .int .i64 (F kk : Nat) ∧ w = wr ∧ Aside0 (∀ j, j < kk → ((m.ws.getD j (0, 0)).2 == a) = false))
  case atStart => exact ⟨0, Nat.zero_le _, by omega, rfl, by rw [HF0.out]; rfl, rfl, ⟨fun j hj => absurd hj (Nat.not_lt_zero _)⟩⟩
  case round =>
    obtain ⟨kk, hkk, hgg, rfl, rfl, hw, HA⟩ := hrel
    subst hw
    have hFl := HCL.out kk
    by_cases hlt : kk < L
    · obtain ⟨gi, rfl, hgi, hx, hy⟩ := item_cells HI.out kk (by rw [← HLL.out]; exact hlt)
      have hc := HC.out kk hlt
      have hfirst := HAF.out kk hlt
      obtain ⟨x, hxe⟩ : ∃ x, x = m.ws.getD kk (0, 0) := ⟨_, rfl⟩
      rw [← hxe] at hx hy hc hfirst
      have HXE := Aside0.mk hxe
      obtain ⟨xt, xa⟩ := x
      simp only at hx hy hc hfirst
      have HFI := Aside0.mk hfirst
      clear hxe hfirst
      by_cases hqe : xa = a
      · have HQ := Aside0.mk (H6.out (HFI.out (by simpa using hqe)))
        subst hqe
        clear hc
        go_wp2
        exact HQ.out
      · have hq : (xa == a) = false := by simpa using hqe
        clear hqe
        have HQ := Aside0.mk (show ((m.ws.getD kk (0, 0)).2 == a) = false by rw [← HXE.out]; exact hq)
        have HA2 := Aside0.mk (show ∀ j, j < kk + 1 → ((m.ws.getD j (0, 0)).2 == a) = false from fun j hj => by
          by_cases e : j = kk
          · subst e; exact HQ.out
          · exact HA.out j (by omega))
        cases hq2 : (xt == t) with
        | true =>
          rw [hq2, if_pos rfl] at hc
          have HCC := Aside0.mk hc
          clear hc
          go_wp2
          go_roundg (L - (kk + 1))
          case measure => omega
          case rel => exact ⟨kk + 1, by omega, by omega, by go_num, by rw [HCC.out]; go_num, rfl, HA2⟩
        | false =>
          rw [hq2, if_neg (by decide)] at hc
          have HCC := Aside0.mk hc
          clear hc
          go_wp2
          go_roundg (L - (kk + 1))
          case measure => omega
          case rel => exact ⟨kk + 1, by omega, by omega, by go_num, by rw [HCC.out]; rfl, rfl, HA2⟩
    · have hkl : kk = L := by omega
      have HNO := Aside0.mk (HAN.out (fun j hj => HA.out j (by omega)))
      rw [hkl] at hFl ⊢
      have HEQ := Aside0.mk (H0.out HNO.out)
      have hlim : (m.ws.length + 1) * 16 ≤ 140737488355328 := by rw [← HLL.out]; omega
      have HLIM := Aside0.mk hlim
      generalize hC : F L = C at *
      have HCF := Aside0.mk hC
      clear hlim hC HA
      by_cases h5 : C + 1 ≤ 3 * m.n
      all_goals
        go_wp2_with (first
          | ((with_reducible refine gate_builtin (b := .append) (xs := #[.tmp 53, .tmp 57]) rfl ?_); at_builtin; refine Kd.R_append kdI (w0 := w) B rfl (.tmp 53) (.tmp 57) 62 74 (.agg #[.int .i64 0, .int .i64 0]) 16 rfl Try.underlying62 info74 rfl (by decide) (by omega) (.slice Ai L ci) m.ws (t, a) [.int .i64 a, .int .i64 t] (fun _ => True) (fun _ => False) rfl rfl ⟨[.int .i64 a], [.int .i64 t], rfl, rfl, rfl⟩ (fun _ hk => hk.elim) (fun _ _ => trivial) HI.out (Below.refl _ _) hB HLIM.out ?_; intro v1 wn ho hb hg hat; obtain ⟨A1, c1, rfl⟩ := Kd.R_slice ho; have htop := retired_top HREF.out hg; have cn0 : wn.cell? ⟨g, 0, none⟩ = some (.int .i64 m.n) := (by rw [Go.Lib.cell_of_heap htop]; rfl); have cn2 : wn.cell? ⟨g, 2, none⟩ = some (.slice Ai L ci) := (by rw [Go.Lib.cell_of_heap htop]; rfl); have fn2 : wn.frozen? ⟨g, 2, none⟩ = false := blk_frozen htop 2; have HX := Aside0.mk (ref_retired HREF.out hB t a hg ho); have HK := Aside0.mk (kept_retired (g := g) (hv := hv) (ps := ps) (v1 := .slice A1 (m.ws ++ [(t, a)]).length c1) hg); have HBW := Aside0.mk (hb.setCell (p := ⟨g, 2, none⟩) HREF.out.bg (.slice A1 (m.ws ++ [(t, a)]).length c1)); have HFT := Aside0.mk (foot_retired (g := g) (hv := hv) (ps := ps) hat); have hLN : (m.ws ++ [(t, a)]).length = L + 1 := (by rw [List.length_append, ← HLL.out]; rfl); rw [hLN] at HX HK HBW HFT ⊢; have HSC := Aside0.mk (rscan_calls HX.out (Nat.le_trans hB HK.out.1) (by show (m.ws ++ [(t, a)]).length ≤ 100000; rw [hLN]; omega) t); clear ho hb hg hat htop hLN)
          | (go_at_call 46; refine (HSC.out).mono ?_; rintro e w6 ⟨v6, iv6, rfl, p1, p2, p3, p4, p5⟩; obtain ⟨A6, c6, rfl⟩ := Kd.R_slice p1; have HR6 := Aside0.mk p1; have HA6 := Aside0.mk (after_items (iv := .slice A1 (L + 1) c1) p2 p3 p4 (fun k hk => .inr (p5 k hk))); clear p1 p2 p3 p4 p5))
      · rw [HEQ.out, ← HLL.out, if_pos (by rw [HM.out]; exact h5)]
        exact ⟨_, rfl, Kd.R_nil _ _ _ _ _, _, _, _, HX.out, HK.out, HBW.out, HFT.out⟩
      · rw [HEQ.out, ← HLL.out, if_neg (by rw [HM.out]; exact h5)]
        exact ⟨_, rfl, Kd.R_lower HR6.out HK.out.1, afterR_then HK.out HBW.out HFT.out HA6.out⟩
theorem rretire_told (h : Ref B w g hv iv ps m) (hB : B ≤ w.heap.size) (hl : m.ws.length ≤ 99999) (t a : Int) :
    Calls Try.prog 35 #[.pointer (some ⟨g, 0, none⟩), .int .i64 t, .int .i64 a] w (ToldR B w g hv iv ps (retireD m t a)) := by
  unfold retireD
  by_cases hx : (bad m t || decide (a < 1)) = true
  · rw [if_pos hx]
    exact rretire_bad h hB t a hx
  · rw [if_neg hx]
    simp only [Bool.or_eq_true, decide_eq_true_eq, not_or] at hx
    exact rretire_good h hB hl t a (by simpa using hx.1) hx.2
end
end Go.Proofs.Ytgdadefobhfkcaa.Hy
