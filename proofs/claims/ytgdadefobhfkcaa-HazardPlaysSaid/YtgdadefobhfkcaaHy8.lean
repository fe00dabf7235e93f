/- Rest, New, Bound: plain lemmas; no condition. -/
import Derived.Test.YtgdadefobhfkcaaHy7
namespace Go.Proofs.Ytgdadefobhfkcaa.Hy
open Go.RowKit Go.Proofs.YtgdadefobhfkcaaW.PrintWords Go.Proofs.YtgdadefobhfkcaaW.PrintLast Go.Proofs.YtgdadefobhfkcaaW.PrintMore
set_option linter.unusedVariables false
set_option linter.unusedSimpArgs false

theorem R_deed {B : Nat} {w w' : World} {g base : Nat} {A : Option Addr} {wv v : Value} {m : HM} {xs : List Int} (h : Kd.R (Kd.int .i64) 3 w base (fun _ => True) v xs) (hm : Man B w g A wv m) (hk : Kept w w' (foot g A wv)) : Kd.R (Kd.int .i64) 3 w' base (fun _ => True) v xs := by
  refine Kd.R_mono (Kd.R_step (Kd.R_bound h) (fun k hk1 hlt => hk.2 k hlt (fun hf => ?_))) (fun _ _ => trivial)
  obtain ⟨_, _, _, q, hq, cells, hc⟩ := hk1
  have hq3 : q = 3 := by simpa [Kd.int, Kd.scalar] using hq
  subst hq3
  rcases hf with rfl | ⟨a, ha, rfl⟩ | hf
  · exact ne_of_tag hm.topc hc (by decide) rfl
  · obtain ⟨b, e, _, tl, hh⟩ := hm.row a ha
    subst e
    exact ne_of_tag hh hc (by decide) rfl
  · obtain ⟨c, hc2⟩ := own_tag hm.own k hf
    exact ne_of_tag hc2 hc (by decide) rfl
def restStep (s : HM × List Int) (t : Nat) : HM × List Int := (scanned s.1 t, s.2 ++ backs s.1 t)
def restTo (m : HM) (k : Nat) : HM × List Int := (List.range k).foldl restStep (m, [])
theorem restTo_succ (m : HM) (k : Nat) : restTo m (k + 1) = restStep (restTo m k) k := by
  unfold restTo
  rw [List.range_succ, List.foldl_append]
  rfl
theorem scan_len (m : HM) (t : Int) : (scanned m t).ws.length + (backs m t).length = m.ws.length := by
  unfold scanned backs
  rw [List.length_map]
  have : ∀ (p : P2 → Bool) (l : List P2), (l.filter fun x => !p x).length + (l.filter p).length = l.length := by
    intro p l
    induction l with
    | nil => rfl
    | cons x r ih => cases h : p x <;> simp [h] <;> omega
  exact this _ _
theorem restTo_facts (m : HM) : ∀ k, (restTo m k).1.n = m.n ∧ (restTo m k).1.ws.length + (restTo m k).2.length = m.ws.length := by
  intro k
  induction k with
  | zero => exact ⟨rfl, rfl⟩
  | succ k ih =>
    rw [restTo_succ]
    refine ⟨ih.1, ?_⟩
    have := scan_len (restTo m k).1 k
    unfold restStep
    simp only [List.length_append]
    omega
theorem man_app {B : Nat} {w w1 : World} {g base : Nat} {A : Option Addr} {wv v : Value} {m : HM} {xs : List Int} (hm : Man B w g A wv m) (hr : Kd.R (Kd.int .i64) 3 w base (fun _ => True) v xs) (hg : w.grownBy w1 v.ownBlock) : Man B w1 g A wv m := by
  refine man_keep hm (fun k hf => hg.block k (hm.foot_lt k hf).2 (fun e => ?_))
  obtain ⟨inner, ho⟩ := Kd.R_own hr
  obtain ⟨c, hc⟩ := own_tag ho k e.symm
  rcases hf with rfl | ⟨a, ha, rfl⟩ | hf
  · exact ne_of_tag hm.topc hc (by decide) rfl
  · obtain ⟨b, e, _, tl, hh⟩ := hm.row a ha
    subst e
    exact ne_of_tag hh hc (by decide) rfl
  · obtain ⟨c, hc2⟩ := own_tag hm.own k hf
    exact ne_of_tag hc2 hc (by decide) rfl
theorem After.app {B : Nat} {w w' w1 : World} {g : Nat} {A : Option Addr} {wv v : Value} {m : HM} {xs : List Int} (h : After B w g A wv m w') (hB : B ≤ w.heap.size) (hr : Kd.R (Kd.int .i64) 3 w' w.heap.size (fun _ => True) v xs) (hg : w'.grownBy w1 v.ownBlock) (hb : Below w.heap.size w' w1) : After B w g A wv m w1 := by
  obtain ⟨wv2, hm, hk, hb2, hw⟩ := h
  exact ⟨wv2, man_app hm hr hg, Kept.of_grown hg hk (fun k he => .inr (Kd.R_base hr k he)), hb2.trans (hb.mono hB), hw⟩
set_option maxHeartbeats 8000000 in
set_option maxRecDepth 100000 in
theorem rest_calls {B : Nat} {w : World} {g : Nat} {A : Option Addr} {wv : Value} {m : HM} (hm : Man B w g A wv m) (hB : B ≤ w.heap.size) (hl : m.ws.length ≤ 100000) :
    Calls Try.prog 24 #[.pointer (some ⟨g, 0, none⟩)] w fun e w' => ∃ v, e = .returned v ∧ Kd.R (Kd.int .i64) 3 w' w.heap.size (fun _ => True) v (restTo m m.n).2 ∧ After B w g A wv (restTo m m.n).1 w' := by
  obtain ⟨cp, c0⟩ := hm.c0
  have hn4 := hm.small
  have HF := Aside0.mk (restTo_facts m)
  have HS := Aside0.mk (restTo_succ m)
  have HA0 : Aside0 (After B w g A wv (restTo m 0).1 w) := ⟨wv, hm, Kept.refl _ _, Below.refl _ _, fun k hk => .inl hk⟩
  clear hm
  go_enter Try.func24, Try.ntmps24
  go_wp2
  go_loopg [3, 4, 12] m.n (fun gg v3 v4 v12 wr => ∃ kk : Nat, kk ≤ m.n ∧ m.n - kk ≤ gg ∧ v12 = .int .i64 kk ∧ w.heap.size ≤ wr.heap.size ∧ Aside0 (After B w g A wv (restTo m kk).1 wr) ∧ Aside0 (Kd.R (Kd.int .i64) 3 wr w.heap.size (fun _ => True) v3 (restTo m kk).2))
  case atStart => exact ⟨0, Nat.zero_le _, by omega, rfl, Nat.le_refl _, HA0, ⟨Kd.R_nil _ _ _ _ _⟩⟩
  case round =>
    clear HA0 c0
    obtain ⟨kk, hkk, hgg, rfl, hsz, HA, HR⟩ := hrel
    by_cases hlt : kk < m.n
    · obtain ⟨wvk, hmk, hkk2, hbk, hwk⟩ := HA.out
      obtain ⟨f1, f2⟩ := HF.out kk
      have hsc := scan_calls hmk (Nat.le_trans hB hsz) (by omega) kk
      have HSC := Aside0.mk hsc
      have HMK := Aside0.mk hmk
      have HKK := Aside0.mk hkk2
      have HBK := Aside0.mk hbk
      have HWK := Aside0.mk hwk
      have hsn := HS.out kk
      unfold restStep at hsn
      have HSN := Aside0.mk hsn
      have hsl := scan_len (restTo m kk).1 kk
      have HSL := Aside0.mk hsl
      clear hsc hmk hkk2 hbk hwk hsn hsl HA
      generalize (restTo m kk).1 = mk at *
      generalize (restTo m kk).2 = bk at *
      have hbl : bk.length ≤ 100000 := by omega
      have hbb : (backs mk kk).length ≤ 100000 := by have := HSL.out; omega
      generalize hYS : backs mk kk = YS at *
      clear hYS
      go_wp2_with (first
        | (go_at_call 40; refine (HSC.out).mono ?_; rintro e w' ⟨vs, wv2, rfl, p1, p2, p3, p4, p5⟩; obtain ⟨A1, c1, rfl⟩ := Kd.R_slice p1; have HR1 := Aside0.mk (R_deed HR.out HMK.out p3); have HYC := Aside0.mk (Kd.R_reads' p1).2.2; have HM2 := Aside0.mk p2; have HK2 := Aside0.mk p3; have HB2 := Aside0.mk p4; have HP5 := Aside0.mk p5; have hsz2 := p3.1; clear p1 p2 p3 p4 p5)
        | ((with_reducible refine gate_builtin (b := .append) (xs := #[.tmp 15, .tmp 18]) rfl ?_); at_builtin; refine Kd.R_append_rows (Kd.int .i64) (w0 := w') w.heap.size rfl (.tmp 15) (.tmp 18) 29 3 (.int .i64 0) 8 rfl Try.underlying29 info3 rfl (by decide) (by omega) u3 bk YS _ _ _ (fun _ => True) (fun _ => False) rfl rfl HR1.out HYC.out (fun _ _ h => h) (fun _ h => h.elim) (fun _ _ => trivial) (Below.refl _ _) (Nat.le_trans hsz hsz2) (by omega) ?_; intro v1 wn ho hb hg hat; have HO := Aside0.mk ho; have HG := Aside0.mk hg; have HBN := Aside0.mk hb; have hszn := hg.size; clear ho hb hg hat))
      go_roundg (m.n - (kk + 1))
      case measure => omega
      case rel =>
        refine ⟨kk + 1, by omega, by omega, by go_num, by omega, ⟨?_⟩, ⟨?_⟩⟩
        · rw [HSN.out]
          exact (After.then_ HKK.out HBK.out HWK.out ⟨_, HM2.out, HK2.out, HB2.out, fun k hk => .inl (HP5.out k hk)⟩).app hB HR1.out HG.out HBN.out
        · rw [HSN.out]
          exact HO.out
    · have hkk2 : kk = m.n := by omega
      subst hkk2
      go_wp2
      go_ret
      exact ⟨_, rfl, HR.out, HA.out⟩
end Go.Proofs.Ytgdadefobhfkcaa.Hy
