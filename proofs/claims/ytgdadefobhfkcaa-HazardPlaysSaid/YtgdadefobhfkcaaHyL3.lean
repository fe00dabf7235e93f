/- The reference's manager: Rest and Retire: plain lemmas; no condition. -/
import Derived.Test.YtgdadefobhfkcaaHyL2
namespace Go.Proofs.Ytgdadefobhfkcaa.Hy
open Go.RowKit Go.Proofs.YtgdadefobhfkcaaW.PrintWords Go.Proofs.YtgdadefobhfkcaaW.PrintLast Go.Proofs.YtgdadefobhfkcaaW.PrintMore
set_option linter.unusedVariables false
set_option linter.unusedSimpArgs false
set_option maxHeartbeats 8000000
set_option maxRecDepth 100000
section
variable {B : Nat} {w w' : World} {g : Nat} {hv iv iv' : Value} {ps : List (Nat × Nat)} {m m' : HM}
/-- What a deed leaves that changes the items alone. -/
theorem after_items (hr : Ref B w' g hv iv' ps m') (hk : Kept w w' (fun k => k = g)) (hb : Below B w w') (hi : ∀ k, iv'.ownBlock = some k → iv.ownBlock = some k ∨ w.heap.size ≤ k) : AfterR B w g hv iv ps m' w' :=
  ⟨hv, iv', ps, hr, hk.mono (fun k e => .inl e), hb, fun k h => by
    rcases h with h | h | h | h
    · exact .inl (.inl h)
    · exact .inl (.inr (.inl h))
    · rcases hi k h with h | h
      · exact .inl (.inr (.inr (.inl h)))
      · exact .inr h
    · exact .inl (.inr (.inr (.inr h)))⟩
/-- A row of numbers, at or above N, grows; the manager's rows lie below N. -/
theorem ref_app {N : Nat} {v : Value} {xs : List Int} (h : Ref B w g hv iv ps m) (hr : Kd.R (Kd.int .i64) 3 w N (fun _ => True) v xs) (hN : ∀ k, k ∈ ps.map (·.1) → k < N) (hg : w.grownBy w' v.ownBlock) : Ref B w' g hv iv ps m := by
  refine ref_keep h (fun k hf => hg.block k (h.foot_lt k hf).2 (fun e => ?_))
  obtain ⟨c, hc⟩ := Kd.R_typed hr k e.symm
  rcases hf with rfl | hf | hf | hf
  · exact ne_of_tag h.top hc (by decide) rfl
  · obtain ⟨c2, hc2⟩ := Kd.R_typed h.hl.top k hf
    exact ne_of_tag hc2 hc (by decide) rfl
  · obtain ⟨c2, hc2⟩ := Kd.R_typed h.it k hf
    exact ne_of_tag hc2 hc (by decide) rfl
  · have := hN k hf
    have := Kd.R_base hr k e.symm
    omega
theorem rrest_calls (h : Ref B w g hv iv ps m) (hB : B ≤ w.heap.size) (hl : m.ws.length ≤ 100000) :
    Calls Try.prog 36 #[.pointer (some ⟨g, 0, none⟩)] w fun e w' => ∃ v, e = .returned v ∧ Kd.R (Kd.int .i64) 3 w' w.heap.size (fun _ => True) v (restTo m m.n).2 ∧ AfterR B w g hv iv ps (restTo m m.n).1 w' := by
  have hn4 := h.small
  have HF := Aside0.mk (restTo_facts m)
  have HS := Aside0.mk (restTo_succ m)
  have HN := Aside0.mk (show ∀ k, k ∈ ps.map (·.1) → k < w.heap.size from fun k hk => (h.foot_lt k (.inr (.inr (.inr hk)))).2)
  have HA0 : Aside0 (∃ ivk, Ref B w g hv ivk ps (restTo m 0).1 ∧ Kept w w (fun k => k = g) ∧ Below B w w ∧ ∀ k, ivk.ownBlock = some k → iv.ownBlock = some k ∨ w.heap.size ≤ k) := ⟨iv, h, Kept.refl _ _, Below.refl _ _, fun k hk => .inl hk⟩
  clear h
  go_enter Try.func36, Try.ntmps36
  go_wp2
  go_loopg [3, 4] m.n (fun gg v3 v4 wr => ∃ kk : Nat, kk ≤ m.n ∧ m.n - kk ≤ gg ∧ v4 = .int .i64 kk ∧ w.heap.size ≤ wr.heap.size ∧ Aside0 (∃ ivk, Ref B wr g hv ivk ps (restTo m kk).1 ∧ Kept w wr (fun k => k = g) ∧ Below B w wr ∧ ∀ k, ivk.ownBlock = some k → iv.ownBlock = some k ∨ w.heap.size ≤ k) ∧ Aside0 (Kd.R (Kd.int .i64) 3 wr w.heap.size (fun _ => True) v3 (restTo m kk).2))
  case atStart => exact ⟨0, Nat.zero_le _, by omega, rfl, Nat.le_refl _, HA0, ⟨Kd.R_nil _ _ _ _ _⟩⟩
  case round =>
    clear HA0
    obtain ⟨kk, hkk, hgg, rfl, hsz, HA, HR⟩ := hrel
    obtain ⟨ivk, hmk, hkk2, hbk, hwk⟩ := HA.out
    obtain ⟨f1, f2⟩ := HF.out kk
    have c0 := hmk.c0
    rw [f1] at c0
    by_cases hlt : kk < m.n
    · have hsc := rscan_calls hmk (Nat.le_trans hB hsz) (by omega) kk
      have HSC := Aside0.mk hsc
      have HMK := Aside0.mk hmk
      have HKK := Aside0.mk hkk2
      have HBK := Aside0.mk hbk
      have HWK := Aside0.mk hwk
      have hsn := HS.out kk
      unfold restStep at hsn
      have HSN := Aside0.mk hsn
      have HSL := Aside0.mk (scan_len (restTo m kk).1 kk)
      clear hsc hmk hkk2 hbk hwk hsn HA
      generalize (restTo m kk).1 = mk at *
      generalize (restTo m kk).2 = bk at *
      have hbl : bk.length ≤ 100000 := by omega
      have hbb : (backs mk kk).length ≤ 100000 := by have := HSL.out; omega
      generalize hYS : backs mk kk = YS at *
      clear hYS
      go_wp2_with (first
        | (go_at_call 46; refine (HSC.out).mono ?_; rintro e w2 ⟨vs, iv2, rfl, p1, p2, p3, p4, p5⟩; obtain ⟨A1, c1, rfl⟩ := Kd.R_slice p1; have HR1 := Aside0.mk (Kd.R_mono (Kd.R_step (Kd.R_types HR.out HMK.out.top (by decide)) (fun k hk hlt => p3.2 k hlt hk.2)) (fun _ _ => trivial) : Kd.R (Kd.int .i64) 3 w2 w.heap.size (fun _ => True) u3 bk); have HYC := Aside0.mk (Kd.R_reads' p1).2.2; have HM2 := Aside0.mk p2; have HK2 := Aside0.mk p3; have HB2 := Aside0.mk p4; have HP5 := Aside0.mk p5; have hsz2 := p3.1; clear p1 p2 p3 p4 p5)
        | ((with_reducible refine gate_builtin (b := .append) (xs := #[.tmp 16, .tmp 19]) rfl ?_); at_builtin; refine Kd.R_append_rows (Kd.int .i64) (w0 := w2) w.heap.size rfl (.tmp 16) (.tmp 19) 29 3 (.int .i64 0) 8 rfl Try.underlying29 info3 rfl (by decide) (by omega) u3 bk YS _ _ _ (fun _ => True) (fun _ => False) rfl rfl HR1.out HYC.out (fun _ _ h => h) (fun _ h => h.elim) (fun _ _ => trivial) (Below.refl _ _) (Nat.le_trans hsz hsz2) (by omega) ?_; intro v1 wn ho hb hg hat; have HO := Aside0.mk ho; have HG := Aside0.mk hg; have HBN := Aside0.mk hb; have hszn := hg.size; clear ho hb hg hat))
      go_roundg (m.n - (kk + 1))
      case measure => omega
      case rel =>
        refine ⟨kk + 1, by omega, by omega, by go_num, by omega, ⟨?_⟩, ⟨?_⟩⟩
        · rw [HSN.out]
          refine ⟨iv2, ref_app HM2.out HR1.out HN.out HG.out, Kept.of_grown HG.out (HKK.out.then_ HK2.out (fun k e => .inl e)) (fun k he => .inr (Kd.R_base HR1.out k he)), (HBK.out.trans HB2.out).trans (HBN.out.mono hB), fun k hk => .inr (Nat.le_trans hsz (HP5.out k hk))⟩
        · rw [HSN.out]
          exact HO.out
    · have hkk3 : kk = m.n := by omega
      subst hkk3
      have HX := Aside0.mk (after_items (iv := iv) hmk hkk2 hbk hwk)
      clear hmk hkk2 hbk hwk HA
      go_wp2
      go_ret
      exact ⟨_, rfl, HR.out, HX.out⟩
theorem ref_retired {v1 : Value} {wn : World} (h : Ref B w g hv iv ps m) (hB : B ≤ w.heap.size) (t a : Int) (hg : w.grownBy wn iv.ownBlock) (ho : kdI.R 74 wn B (fun _ => True) v1 (m.ws ++ [(t, a)])) :
    Ref B (wn.setCell ⟨g, 2, none⟩ v1) g hv v1 ps (retired m t a) := by
  have h1 := h
  have ne : ∀ k, (k = g ∨ hv.ownBlock = some k ∨ k ∈ ps.map (·.1)) → some k ≠ iv.ownBlock := fun k hk e => by
    obtain ⟨c, hc⟩ := Kd.R_typed h1.it k e.symm
    rcases hk with rfl | hk | hk
    · exact ne_of_tag h1.top hc (by decide) rfl
    · obtain ⟨c2, hc2⟩ := Kd.R_typed h1.hl.top k hk
      exact ne_of_tag hc2 hc (by decide) rfl
    · obtain ⟨tt, ht, e2⟩ := mem_rows hk
      obtain ⟨c2, hc2⟩ := Kd.R_typed (h1.hl.row tt ht) _ rfl
      exact ne_of_tag hc2 hc (by decide) e2
  have same : ∀ k, (k = g ∨ hv.ownBlock = some k ∨ k ∈ ps.map (·.1)) → wn.heap[k]? = w.heap[k]? := fun k hk => hg.block k (h1.foot_lt k (by
    rcases hk with hk | hk | hk
    · exact .inl hk
    · exact .inr (.inl hk)
    · exact .inr (.inr (.inr hk)))).2 (ne k hk)
  have htop : wn.heap[g]? = some (.cells #[.int .i64 m.n, hv, iv] 64 (0, 0)) := (same g (.inl rfl)).trans h1.top
  refine ⟨h.len, h.small, h.bg, ?_, (h1.hl.move (fun k hk => same k (.inr hk))).move (fun k hk => Below.heap_setCell wn ⟨g, 2, none⟩ v1 k (fun e => ?_)), h.pl, Kd.R_set ho htop (by decide) _ _⟩
  · rw [blk_set htop 2 v1]; rfl
  · rw [show k = g from e] at hk
    rcases hk with hk | hk
    · obtain ⟨c, hc⟩ := Kd.R_typed h1.hl.top g hk
      exact ne_of_tag h1.top hc (by decide) rfl
    · obtain ⟨tt, ht, e⟩ := mem_rows hk
      obtain ⟨c, hc⟩ := Kd.R_typed (h1.hl.row tt ht) _ rfl
      exact ne_of_tag h1.top hc (by decide) e.symm
theorem any_first (l : List (Int × Int)) (a : Int) (j : Nat) (hj : j < l.length) (h : ((l.getD j (0, 0)).2 == a) = true) : (l.any fun x => x.2 == a) = true := by
  rw [List.any_eq_true]
  refine ⟨l[j], List.getElem_mem _, ?_⟩
  rw [List.getD_eq_getElem?_getD, List.getElem?_eq_getElem hj] at h
  exact h
theorem any_none (l : List (Int × Int)) (a : Int) (h : ∀ j, j < l.length → ((l.getD j (0, 0)).2 == a) = false) : (l.any fun x => x.2 == a) = false := by
  rw [List.any_eq_false]
  intro x hx
  obtain ⟨j, hj, rfl⟩ := List.getElem_of_mem hx
  have := h j hj
  rw [List.getD_eq_getElem?_getD, List.getElem?_eq_getElem hj] at this
  simp only [Option.getD_some] at this
  rw [this]
  decide
end
end Go.Proofs.Ytgdadefobhfkcaa.Hy
