/- Retire of the reference: plain lemmas; no condition. -/
import Derived.Test.YtcfodmnpmjkpbaaF5
namespace Go.Proofs.Ytcfodmnpmjkpbaa.Ep
open Go.RowKit Go.Proofs.YtcfodmnpmjkpbaaW.PrintWords Go.Proofs.YtcfodmnpmjkpbaaW.PrintLast Go.Proofs.YtcfodmnpmjkpbaaW.PrintMore
set_option linter.unusedVariables false
set_option linter.unusedSimpArgs false
set_option maxHeartbeats 8000000
set_option maxRecDepth 100000
def rlined (m : RM) (a t : Int) : RM := { m with its := m.its ++ [(a, t, m.now)] }
theorem ref_lined {B : Nat} {w W1 : World} {r : Nat} {iv v1 : Value} {m : RM} {a t : Int} (hr : Ref B w r iv m) (hB : B ≤ w.heap.size)
    (ho : W1.ownsRow B 80 8 v1 (m.its.length + 1) (flat8 m.its ++ item8 (a, t, m.now))) (hb : Below B w W1) (hg : w.grownBy W1 iv.ownBlock) (hat : v1.ownBlock = iv.ownBlock ∨ ∃ b, v1.ownBlock = some b ∧ w.heap.size ≤ b) :
    Ref B (W1.setCell ⟨r, 28, none⟩ v1) r v1 (rlined m a t) ∧ Kept w (W1.setCell ⟨r, 28, none⟩ v1) (rfoot r iv) ∧ Below B w (W1.setCell ⟨r, 28, none⟩ v1) ∧ ∀ k, v1.ownBlock = some k → iv.ownBlock = some k ∨ w.heap.size ≤ k := by
  obtain ⟨cur, c1, c2⟩ := hr.top
  have ht : W1.heap[r]? = w.heap[r]? := hg.block r (blk_lt c1) (fun e => by
    obtain ⟨c, hc⟩ := own_tag hr.own r e.symm
    exact ne_of_tag c1 hc (by decide) rfl)
  have htop := ht.trans c1
  have far : ∀ k, k ≠ r → (W1.setCell ⟨r, 28, none⟩ v1).heap[k]? = W1.heap[k]? := fun k hk => Below.heap_setCell W1 ⟨r, 28, none⟩ _ k hk
  have hset := blk_set htop 28 v1
  have hlow := hb.setCell (p := ⟨r, 28, none⟩) hr.br v1
  have hsz : (W1.setCell ⟨r, 28, none⟩ v1).heap.size = W1.heap.size := by simp [World.setCell]
  generalize W1.setCell ⟨r, 28, none⟩ v1 = w2 at *
  have hsize := hg.size
  refine ⟨⟨hr.small, hr.br, ⟨_, hset, put_its c2 rfl rfl rfl rfl⟩, ?_⟩, ⟨by omega, fun k hk hf => ?_⟩, hlow, fun k hk => ?_⟩
  · have e : flat8 (rlined m a t).its = flat8 m.its ++ item8 (a, t, m.now) := by
      unfold rlined
      simp only
      rw [flat8_append]
      rfl
    have e2 : (rlined m a t).its.length = m.its.length + 1 := by simp [rlined]
    rw [e, e2]
    obtain ⟨h1, h2⟩ := ho
    refine ⟨h1, h2.imp_right ?_⟩
    rintro ⟨b, cap, cur, e, h3, h4, h5⟩
    exact ⟨b, cap, cur, e, h3, (far b (fun e2 => ne_of_tag h4 htop (by decide) e2)).trans h4, h5⟩
  · rw [far k (fun e => hf (.inl e)), hg.block k hk (fun e => hf (.inr e.symm))]
  · rcases hat with h | ⟨b, h, hb2⟩
    · exact .inl (h ▸ hk)
    · rw [h] at hk; injection hk with hk; exact .inr (by omega)
section
variable {B : Nat} {w : World} {r : Nat} {iv : Value} {m : RM}
theorem rretire_no (hr : Ref B w r iv m) (t a : Int) (h1 : (rbad m t || decide (a < 1)) = true) :
    Calls Try.prog 36 #[.pointer (some ⟨r, 0, none⟩), .int .i64 t, .int .i64 a] w fun e w' => e = .returned (.tuple #[.slice none 0 0, .int .i64 1]) ∧ w' = w := by
  have hc := thread_calls hr t
  generalize rbad m t = b at hc h1
  clear hr
  cases b
  · have h2 : a < 1 := by simpa using h1
    clear h1
    go_enter Try.func36, Try.ntmps36
    go_wp2_with (go_at_call 45; refine hc.mono ?_; rintro e w' ⟨rfl, rfl⟩)
    go_ret2
    exact ⟨rfl, rfl⟩
  · clear h1
    go_enter Try.func36, Try.ntmps36
    go_wp2_with (go_at_call 45; refine hc.mono ?_; rintro e w' ⟨rfl, rfl⟩)
    go_ret2
    exact ⟨rfl, rfl⟩
theorem rretire_dup (hr : Ref B w r iv m) (hl : m.its.length ≤ 1000000) (t a : Int) (h1 : rbad m t = false) (h2 : ¬ a < 1) (h3 : rhas m a = true) :
    Calls Try.prog 36 #[.pointer (some ⟨r, 0, none⟩), .int .i64 t, .int .i64 a] w fun e w' => e = .returned (.tuple #[.slice none 0 0, .int .i64 6]) ∧ w' = w := by
  have hc := thread_calls hr t
  rw [h1] at hc
  have hw := rwaits_calls hr hl a
  rw [h3] at hw
  have hd1 : decide (a < 1) = false := by simpa using h2
  clear hr h1 h3
  go_enter Try.func36, Try.ntmps36
  go_wp2_with (first | (go_at_call 45; refine hc.mono ?_; rintro e w' ⟨rfl, hw⟩; rw [hw]; clear hw) | (go_at_call 48; refine hw.mono ?_; rintro e w' ⟨rfl, hw⟩; rw [hw]; clear hw))
  go_ret2
  exact ⟨rfl, rfl⟩
set_option maxHeartbeats 16000000 in
theorem rretire_add (hr : Ref B w r iv m) (hB : B ≤ w.heap.size) (hl : m.its.length ≤ 90000) (he0 : 0 ≤ m.now) (he : m.now ≤ 100000) (t a : Int) (h1 : rbad m t = false) (h2 : ¬ a < 1) (h3 : rhas m a = false) :
    Calls Try.prog 36 #[.pointer (some ⟨r, 0, none⟩), .int .i64 t, .int .i64 a] w fun e w' => ∃ v, e = .returned (.tuple #[v, .int .i64 0]) ∧
      Kd.R (Kd.int .i64) 3 w' w.heap.size (fun _ => True) v (rtryBack (rlined m a t)) ∧ RAfter B w r iv (rtried (rlined m a t)) w' := by
  have hc := thread_calls hr t
  rw [h1] at hc
  have hw := rwaits_calls hr (by omega) a
  rw [h3] at hw
  have hd1 : decide (a < 1) = false := by simpa using h2
  have hbi := rbirth_calls (ref_keep (w' := w.drew) hr (fun _ _ => rfl)) a
  obtain ⟨cur2, c1, c2⟩ := hr.top
  have k3 : w.cell? ⟨r, 3, none⟩ = some (.int .i64 m.now) := by rw [Go.Lib.cell_of_heap c1]; exact c2.k3
  have k1 : w.cell? ⟨r, 1, none⟩ = some (.int .i64 2) := by rw [Go.Lib.cell_of_heap c1]; exact c2.k1
  have HR := Aside0.mk hr
  have HBI := Aside0.mk hbi
  have hbe0 := (Below.refl w.heap.size w).alloc (Nat.le_refl _) (.cells #[.int .i64 0, .int .i64 0, .int .i64 0, .int .i64 0, .bool false, .bool false, .bool false, .bool false] 80 (0, 0))
  have k3z := (hbe0.cell (p := ⟨r, 3, none⟩) (World.block_lt_of_cell? w _ k3)).trans k3
  have hrl := hr.lt
  have hne : ¬ (r = w.heap.size) := by omega
  have hne2 : ¬ (w.heap.size = r) := by omega
  have HBI1 := Aside0.mk (rbirth_calls (hr.grow (below_drew1 hbe0)) a)
  clear hr h1 h3 c1 c2 hbi hbe0
  go_enter Try.func36, Try.ntmps36
  go_wp2_with (first | (go_at_call 45; refine hc.mono ?_; rintro e w' ⟨rfl, hw⟩; rw [hw]; clear hw) | (go_at_call 48; refine hw.mono ?_; rintro e w' ⟨rfl, hw⟩; rw [hw]; clear hw))
  go_region_with first | (go_at_call 49; (with_reducible refine (HBI.out).mono ?_); rintro e w' ⟨rfl, rfl⟩) | (go_at_call 49; (with_reducible refine (HBI1.out).mono ?_); rintro e w' ⟨rfl, rfl⟩)
  all_goals
    have hbeI := (Below.refl w.heap.size w).alloc (Nat.le_refl _) (.cells #[.int .i64 a, .int .i64 t, .int .i64 m.now, .int .i64 0, .bool false, .bool false, .bool false, .bool false] 80 (0, 0))
    have hnI := heap_alloc_new w (.cells #[.int .i64 a, .int .i64 t, .int .i64 m.now, .int .i64 0, .bool false, .bool false, .bool false, .bool false] 80 (0, 0))
    have HBW := Aside0.mk (below_drew1 hbeI)
    have HNW : Aside0 ((w.alloc (.cells #[.int .i64 a, .int .i64 t, .int .i64 m.now, .int .i64 0, .bool false, .bool false, .bool false, .bool false] 80 (0, 0))).drew.heap[w.heap.size]? = some (.cells #[.int .i64 a, .int .i64 t, .int .i64 m.now, .int .i64 0, .bool false, .bool false, .bool false, .bool false] 80 (0, 0))) := ⟨hnI⟩
    have HRW := Aside0.mk (HR.out.grow HBW.out)
    clear hbeI hnI k3z k3 k1 HBI HBI1 hc hw
    generalize (w.alloc (.cells #[.int .i64 a, .int .i64 t, .int .i64 m.now, .int .i64 0, .bool false, .bool false, .bool false, .bool false] 80 (0, 0))).drew = w1 at *
    obtain ⟨A0, c0, hiv⟩ := own_form HRW.out.own
    subst hiv
    obtain ⟨cur3, d1, d2⟩ := HRW.out.top
    have k1 : w1.cell? ⟨r, 1, none⟩ = some (.int .i64 2) := by rw [Go.Lib.cell_of_heap d1]; exact d2.k1
    have k8 : w1.cell? ⟨r, 28, none⟩ = some (.slice A0 m.its.length c0) := by rw [Go.Lib.cell_of_heap d1]; exact d2.its
    have f8 := blk_frozen d1 28
    have x0 : w1.cell? ⟨w.heap.size, 0, none⟩ = some (.int .i64 a) := by rw [Go.Lib.cell_of_heap HNW.out]; rfl
    have x1 : w1.cell? ⟨w.heap.size, 1, none⟩ = some (.int .i64 t) := by rw [Go.Lib.cell_of_heap HNW.out]; rfl
    have x2 : w1.cell? ⟨w.heap.size, 2, none⟩ = some (.int .i64 m.now) := by rw [Go.Lib.cell_of_heap HNW.out]; rfl
    have x3 : w1.cell? ⟨w.heap.size, 3, none⟩ = some (.int .i64 0) := by rw [Go.Lib.cell_of_heap HNW.out]; rfl
    have x4 : w1.cell? ⟨w.heap.size, 4, none⟩ = some (.bool false) := by rw [Go.Lib.cell_of_heap HNW.out]; rfl
    have x5 : w1.cell? ⟨w.heap.size, 5, none⟩ = some (.bool false) := by rw [Go.Lib.cell_of_heap HNW.out]; rfl
    have x6 : w1.cell? ⟨w.heap.size, 6, none⟩ = some (.bool false) := by rw [Go.Lib.cell_of_heap HNW.out]; rfl
    have x7 : w1.cell? ⟨w.heap.size, 7, none⟩ = some (.bool false) := by rw [Go.Lib.cell_of_heap HNW.out]; rfl
    have hown : w1.drew.ownsRow B 80 8 (.slice A0 m.its.length c0) m.its.length (flat8 m.its) := HRW.out.own
    have hsize : B ≤ w1.drew.heap.size := Nat.le_trans hB HBW.out.size
    have hlim : (m.its.length + 1) * 40 ≤ 140737488355328 := by omega
    have hone : ∀ u ∈ [Value.int .i64 a, .int .i64 t, .int .i64 m.now, .int .i64 0, .bool false, .bool false, .bool false, .bool false], u.oneCell' = true := by
      intro u hu
      simp at hu
      rcases hu with rfl | rfl | rfl | rfl | rfl <;> rfl
    have HRD := Aside0.mk (HRW.out.grow (below_drew1 (Below.refl _ _)))
    have c12 : (w1.alloc (.cells #[.int .i64 a, .int .i64 t, .int .i64 m.now, .int .i64 0, .bool false, .bool false, .bool false, .bool false] 80 (0, 0))).cell? ⟨r, 28, none⟩ = some (.slice A0 m.its.length c0) := (((Below.refl w1.heap.size w1).alloc (Nat.le_refl _) _).cell (p := ⟨r, 28, none⟩) (blk_lt d1)).trans k8
    clear d1 d2
    go_wp2
    go_region_law (refine step_append_cells (w0 := w1.drew) (W := w1.drew) B ?hw (.tmp 46) (.tmp 48) 35 80 (.agg #[.int .i64 0, .int .i64 0, .int .i64 0, .int .i64 0, .bool false, .bool false, .bool false, .bool false]) 8 40 rfl Try.underlying35 info80 rfl (by decide) (by decide) (.slice A0 m.its.length c0) m.its.length (flat8 m.its) [.int .i64 a, .int .i64 t, .int .i64 m.now, .int .i64 0, .bool false, .bool false, .bool false, .bool false] ?hs ?hx rfl hone hown (Below.refl _ _) hsize hlim ?_; (case hw => exact (by simp [Region.wanted])); (case hs => exact (by simp [Act.eval, Act.put])); (case hx => exact (by simp [Act.eval, Act.put])); intro v1 wn ho hb hg hat; have HX := Aside0.mk (ref_lined HRD.out hsize ho hb hg hat); obtain ⟨A1, d1, rfl⟩ := own_form ho; obtain ⟨cur4, e1, e2⟩ := HRD.out.top; have hgn := hg.block r (blk_lt e1) (fun e => by obtain ⟨c, hc⟩ := own_tag HRD.out.own r e.symm; exact ne_of_tag e1 hc (by decide) rfl); have cn : wn.cell? ⟨r, 28, none⟩ = some (.slice A0 m.its.length c0) := (by rw [Go.Lib.cell_of_heap (hgn.trans e1)]; exact e2.its); have fn : wn.frozen? ⟨r, 28, none⟩ = false := blk_frozen (hgn.trans e1) 28; clear ho hb hg hat hgn e1 e2)
    all_goals
      obtain ⟨hrX, hkX, hbX, hwX⟩ := HX.out
      have hLl : (rlined m a t).its.length = m.its.length + 1 := by simp [rlined]
      have hL2 : m.its.length + 1 ≤ 100000 := by omega
      generalize m.its.length + 1 = L2 at *
      generalize wn.setCell ⟨r, 28, none⟩ (.slice A1 L2 d1) = W at *
      obtain ⟨cur5, g1, g2⟩ := hrX.top
      have kk1 : W.cell? ⟨r, 1, none⟩ = some (.int .i64 2) := by rw [Go.Lib.cell_of_heap g1]; exact g2.k1
      have hkA : Kept w W (rfoot r (.slice A0 m.its.length c0)) := (Kept.of_below (below_drew1 HBW.out) _).then_ hkX (fun k h => .inl h)
      have hbA : Below B w W := (below_drew1 (HBW.out.mono hB)).trans hbX
      have hwA : ∀ k, (Value.slice A1 L2 d1).ownBlock = some k → (Value.slice A0 m.its.length c0).ownBlock = some k ∨ w.heap.size ≤ k := fun k hk => by
        rcases hwX k hk with h | h
        · exact .inl h
        · exact .inr (Nat.le_trans HBW.out.size h)
      have htry := rtry_calls hrX (Nat.le_trans hB hkA.1) (by omega) he0 he
      have HTRY := Aside0.mk htry
      have HKA := Aside0.mk hkA
      have HBA := Aside0.mk hbA
      have HWA := Aside0.mk hwA
      clear hrX hkX hbX hwX HX cn fn c12 HRD hlim hsize hown hone htry hkA hbA hwA g1 g2 x0 x1 x2 x3 x4 x5 x6 x7 k8 f8 k1
      go_wp2_with (go_at_call 50; refine (HTRY.out).mono ?_; rintro e w5 ⟨v, rfl, hr5, ha5⟩; have HR5 := Aside0.mk hr5; have HA5 := Aside0.mk ha5; clear hr5 ha5)
      go_ret2
      exact ⟨_, rfl, Kd.R_lower HR5.out HKA.out.1, RAfter.then_ HKA.out HBA.out HWA.out HA5.out⟩
end
end Go.Proofs.Ytcfodmnpmjkpbaa.Ep
