/- Retire of an epoch manager: plain lemmas; no condition. -/
import Derived.Test.YtcfodmnpmjkpbaaE5
namespace Go.Proofs.Ytcfodmnpmjkpbaa.Ep
open Go.RowKit Go.Proofs.YtcfodmnpmjkpbaaW.PrintWords Go.Proofs.YtcfodmnpmjkpbaaW.PrintLast Go.Proofs.YtcfodmnpmjkpbaaW.PrintMore
set_option linter.unusedVariables false
set_option linter.unusedSimpArgs false
set_option maxHeartbeats 8000000
set_option maxRecDepth 100000
def lined (m : EM) (a : Int) : EM := { m with ws := m.ws ++ [(a, m.ep)] }
theorem man_lined {B : Nat} {w W1 : World} {g : Nat} {tv wv v1 : Value} {m : EM} {a : Int} (hm : Man B w g tv wv m) (hB : B ≤ w.heap.size)
    (ho : W1.ownsRow B 78 2 v1 (m.ws.length + 1) (flat m.ws ++ [.int .i64 a, .int .i64 m.ep])) (hb : Below B w W1) (hg : w.grownBy W1 wv.ownBlock) (hat : v1.ownBlock = wv.ownBlock ∨ ∃ b, v1.ownBlock = some b ∧ w.heap.size ≤ b) :
    Man B (W1.setCell ⟨g, 2, none⟩ v1) g tv v1 (lined m a) ∧ Kept w (W1.setCell ⟨g, 2, none⟩ v1) (foot g tv wv) ∧ Below B w (W1.setCell ⟨g, 2, none⟩ v1) ∧ ∀ k, v1.ownBlock = some k → wv.ownBlock = some k ∨ w.heap.size ≤ k := by
  have hgl := blk_lt hm.top
  have ht : W1.heap[g]? = w.heap[g]? := hg.block g hgl (fun e => by
    obtain ⟨c, hc⟩ := own_tag hm.own g e.symm
    exact ne_of_tag hm.top hc (by decide) rfl)
  have htop := ht.trans hm.top
  have far : ∀ k, k ≠ g → (W1.setCell ⟨g, 2, none⟩ v1).heap[k]? = W1.heap[k]? := fun k hk => Below.heap_setCell W1 ⟨g, 2, none⟩ _ k hk
  have hset := blk_set htop 2 v1
  have hlow := hb.setCell (p := ⟨g, 2, none⟩) hm.bg v1
  have hsz : (W1.setCell ⟨g, 2, none⟩ v1).heap.size = W1.heap.size := by simp [World.setCell]
  generalize W1.setCell ⟨g, 2, none⟩ v1 = w2 at *
  have hsize := hg.size
  refine ⟨⟨hm.small, hm.bg, by rw [hset]; rfl, ?_, ?_⟩, ⟨by omega, fun k hk hf => ?_⟩, hlow, fun k hk => ?_⟩
  · refine own_move hm.tow (fun k hk => ?_)
    obtain ⟨c, hc⟩ := own_tag hm.tow k hk
    refine (far k (ne_of_tag hc hm.top (by decide))).trans (hg.block k (blk_lt hc) (fun e3 => ?_))
    obtain ⟨c2, hc2⟩ := own_tag hm.own k e3.symm
    exact ne_of_tag hc hc2 (by decide) rfl
  · have e : flat (lined m a).ws = flat m.ws ++ [.int .i64 a, .int .i64 m.ep] := flat_append _ _
    have e2 : (lined m a).ws.length = m.ws.length + 1 := by simp [lined]
    rw [e, e2]
    obtain ⟨h1, h2⟩ := ho
    refine ⟨h1, h2.imp_right ?_⟩
    rintro ⟨b, cap, cur, e, h3, h4, h5⟩
    exact ⟨b, cap, cur, e, h3, (far b (fun e2 => ne_of_tag h4 htop (by decide) e2)).trans h4, h5⟩
  · rw [far k (fun e => hf (.inl e)), hg.block k hk (fun e => hf (.inr (.inr e.symm)))]
  · rcases hat with h | ⟨b, h, hb2⟩
    · exact .inl (h ▸ hk)
    · rw [h] at hk; injection hk with hk; exact .inr (by omega)
theorem ne_own {B : Nat} {w : World} {g : Nat} {tv wv : Value} {m : EM} (hm : Man B w g tv wv m) : some g ≠ wv.ownBlock := by
  intro e
  obtain ⟨c, hc⟩ := own_tag hm.own g e.symm
  exact ne_of_tag hm.top hc (by decide) rfl
section
variable {B : Nat} {w : World} {g : Nat} {tv wv : Value} {m : EM}
theorem retire_no (b : Bool) (g : Option Addr) (t a : Int) (hc : Calls Try.prog 38 #[.pointer g, .int .i64 t] w fun e w' => e = .returned (.bool (!b)) ∧ w' = w) (h1 : (b || decide (a < 1)) = true) :
    Calls Try.prog 24 #[.pointer g, .int .i64 t, .int .i64 a] w fun e w' => e = .returned (.tuple #[.slice none 0 0, .int .i64 1]) ∧ w' = w := by
  cases b
  · have h2 : a < 1 := by simpa using h1
    clear h1
    go_enter Try.func24, Try.ntmps24
    go_wp2_with (go_at_call 38; refine hc.mono ?_; rintro e w' ⟨rfl, rfl⟩)
    go_ret2
    exact ⟨rfl, rfl⟩
  · clear h1
    go_enter Try.func24, Try.ntmps24
    go_wp2_with (go_at_call 38; refine hc.mono ?_; rintro e w' ⟨rfl, rfl⟩)
    go_ret2
    exact ⟨rfl, rfl⟩
/-- The addresses that wait. -/
def addrs (m : EM) : List Int := m.ws.map (·.1)
theorem pos_of_bad {t : Int} (h : bad m t = false) : 0 < m.th.length := by
  unfold bad at h
  simp only [Bool.or_eq_false_iff, decide_eq_false_iff_not] at h
  omega
theorem retire_dup (hm : Man B w g tv wv m) (hl : m.ws.length ≤ 1000000) (t a : Int) (h1 : bad m t = false) (h2 : ¬ a < 1) (h3 : (addrs m).contains a = true) :
    Calls Try.prog 24 #[.pointer (some ⟨g, 0, none⟩), .int .i64 t, .int .i64 a] w fun e w' => e = .returned (.tuple #[.slice none 0 0, .int .i64 6]) ∧ Below w.heap.size w w' := by
  have hc := has_calls hm t
  rw [h1] at hc
  have hwt := waiting_calls hm (pos_of_bad h1) hl
  have hd1 : decide (a < 1) = false := by simpa using h2
  have hll : (addrs m).length ≤ 1000000 := by simpa [addrs] using hl
  clear hm h1
  have hwt2 : Calls Try.prog 19 #[.pointer (some ⟨g, 0, none⟩)] w fun e w' => ∃ A c, e = .returned (.slice A (addrs m).length c) ∧ ReadsI w' A (addrs m) ∧ Below w.heap.size w w' := by
    refine hwt.mono ?_
    rintro e w' ⟨v, rfl, hr, hb⟩
    obtain ⟨A, c, rfl⟩ := Kd.R_slice hr
    exact ⟨A, c, rfl, reads_R hr, hb⟩
  clear hwt
  generalize addrs m = L at *
  have H3 := Aside0.mk h3
  clear h3
  go_enter Try.func24, Try.ntmps24
  go_wp2_with (first
    | (go_at_call 38; refine hc.mono ?_; rintro e w' ⟨rfl, hw⟩; rw [hw]; clear hw)
    | (go_at_call 19; refine hwt2.mono ?_; rintro e w1 ⟨A, c, rfl, hr, hb⟩; have HR := Aside0.mk hr; have HB := Aside0.mk hb; clear hr hb)
    | (go_at_call 39; refine (contains_calls A c L a w1 HR.out hll).mono ?_; rw [H3.out]; rintro e w' ⟨rfl, hw⟩; rw [hw]; clear hw))
  go_ret2
  exact ⟨rfl, HB.out⟩
theorem tried_facts (m : EM) : (tried m).th = m.th ∧ (tried m).ws.length + (tryBack m).length = m.ws.length ∧ m.ep ≤ (tried m).ep ∧ (tried m).ep ≤ m.ep + 1 := by
  unfold tried tryBack
  cases h : stuck m with
  | true => simp; omega
  | false =>
    simp only [Bool.false_eq_true, if_false]
    refine ⟨rfl, ?_, by show m.ep ≤ m.ep + 1; omega, Int.le_refl _⟩
    unfold raised raisedBack
    simp only
    rw [List.length_map]
    have : ∀ (p : P2 → Bool) (l : List P2), (l.filter fun x => !p x).length + (l.filter p).length = l.length := by
      intro p l
      induction l with
      | nil => rfl
      | cons x r ih => cases h : p x <;> simp [h] <;> omega
    exact this _ _
set_option maxHeartbeats 16000000 in
theorem retire_add (hm : Man B w g tv wv m) (hB : B ≤ w.heap.size) (hl : m.ws.length ≤ 100000) (he0 : 0 ≤ m.ep) (he : m.ep ≤ 100000) (t a : Int) (h1 : bad m t = false) (h2 : ¬ a < 1) (h3 : (addrs m).contains a = false) :
    Calls Try.prog 24 #[.pointer (some ⟨g, 0, none⟩), .int .i64 t, .int .i64 a] w fun e w' => ∃ v, e = .returned (.tuple #[v, .int .i64 0]) ∧
      Kd.R (Kd.int .i64) 3 w' w.heap.size (fun _ => True) v (tryBack (lined m a)) ∧ After B w g tv wv (tried (lined m a)) w' := by
  have hc := has_calls hm t
  rw [h1] at hc
  have hwt := waiting_calls hm (pos_of_bad h1) (by omega)
  have hd1 : decide (a < 1) = false := by simpa using h2
  have hll : (addrs m).length ≤ 1000000 := by simp [addrs]; omega
  have HM0 := Aside0.mk hm
  have hwt2 : Calls Try.prog 19 #[.pointer (some ⟨g, 0, none⟩)] w fun e w' => ∃ A c, e = .returned (.slice A (addrs m).length c) ∧ ReadsI w' A (addrs m) ∧ Below w.heap.size w w' := by
    refine hwt.mono ?_
    rintro e w' ⟨v, rfl, hr, hb⟩
    obtain ⟨A, c, rfl⟩ := Kd.R_slice hr
    exact ⟨A, c, rfl, reads_R hr, hb⟩
  obtain ⟨A0, c0, hwv⟩ := own_form hm.own
  subst hwv
  clear hwt hm h1
  generalize addrs m = L at *
  have H3 := Aside0.mk h3
  clear h3
  go_enter Try.func24, Try.ntmps24
  go_wp2_with (first
    | (go_at_call 38; refine hc.mono ?_; rintro e w' ⟨rfl, hw⟩; rw [hw]; clear hw)
    | (go_at_call 19; refine hwt2.mono ?_; rintro e w1 ⟨A, c, rfl, hr, hb⟩; have HR := Aside0.mk hr; have HB1 := Aside0.mk hb; clear hr hb)
    | (go_at_call 39; refine (contains_calls A c L a w1 HR.out hll).mono ?_; rw [H3.out]; rintro e w' ⟨rfl, hw⟩; rw [hw]; clear hw; have HM1 := Aside0.mk (HM0.out.grow HB1.out); have c11 := HM1.out.c2; have c10 := HM1.out.c0; have f11 : w1.frozen? ⟨g, 2, none⟩ = false := blk_frozen HM1.out.top 2))
  have hown : w1.drew.ownsRow B 78 2 (.slice A0 m.ws.length c0) m.ws.length (flat m.ws) := HM1.out.own
  have hsize : B ≤ w1.drew.heap.size := Nat.le_trans hB HB1.out.size
  have hlim : (m.ws.length + 1) * 16 ≤ 140737488355328 := by omega
  have hone : ∀ u ∈ [Value.int .i64 a, Value.int .i64 m.ep], u.oneCell' = true := by
    intro u hu
    simp at hu
    rcases hu with rfl | rfl <;> rfl
  have HMD := Aside0.mk (HM1.out.grow (below_drew1 (Below.refl _ _)))
  have c12 : (w1.alloc (.cells #[.int .i64 a, .int .i64 m.ep] 78 (0, 0))).cell? ⟨g, 2, none⟩ = some (.slice A0 m.ws.length c0) := (((Below.refl w1.heap.size w1).alloc (Nat.le_refl _) _).cell (p := ⟨g, 2, none⟩) (blk_lt HM1.out.top)).trans c11
  clear hc hd1 h2 hwt2
  go_region_law (refine step_append_cells (w0 := w1.drew) (W := w1.drew) B ?hw (.tmp 24) (.tmp 31) 67 78 (.agg #[.int .i64 0, .int .i64 0]) 2 16 rfl Try.underlying67 info78 rfl (by decide) (by decide) (.slice A0 m.ws.length c0) m.ws.length (flat m.ws) [.int .i64 a, .int .i64 m.ep] ?hs ?hx rfl hone hown (Below.refl _ _) hsize hlim ?_; (case hw => exact (by simp [Region.wanted])); (case hs => exact (by simp [Act.eval, Act.put])); (case hx => exact (by simp [Act.eval, Act.put])); intro v1 wn ho hb hg hat; have HX := Aside0.mk (man_lined HMD.out hsize ho hb hg hat); obtain ⟨A1, d1, rfl⟩ := own_form ho; have hgn := hg.block g (blk_lt HMD.out.top) (fun e => ne_own HMD.out e); have cn : wn.cell? ⟨g, 2, none⟩ = some (.slice A0 m.ws.length c0) := (by rw [Go.Lib.cell_of_heap (hgn.trans HMD.out.top)]; rfl); have fn : wn.frozen? ⟨g, 2, none⟩ = false := blk_frozen (hgn.trans HMD.out.top) 2; clear ho hb hg hat hgn)
  all_goals
    obtain ⟨hmW, hkW, hbW, hwW⟩ := HX.out
    have hLl : (lined m a).ws.length = m.ws.length + 1 := by simp [lined]
    have hL2 : m.ws.length + 1 ≤ 1000000 := by omega
    generalize m.ws.length + 1 = L2 at *
    generalize wn.setCell ⟨g, 2, none⟩ (.slice A1 L2 d1) = W at *
    have HMW := Aside0.mk hmW
    have hkA : Kept w W (foot g tv (.slice A0 m.ws.length c0)) := (Kept.of_below (below_drew1 HB1.out) _).then_ hkW (fun k h => .inl h)
    have hbA : Below B w W := (below_drew1 (HB1.out.mono hB)).trans hbW
    have hwA : ∀ k, (Value.slice A1 L2 d1).ownBlock = some k → (Value.slice A0 m.ws.length c0).ownBlock = some k ∨ w.heap.size ≤ k := fun k hk => by
      rcases hwW k hk with h | h
      · exact .inl h
      · exact .inr (Nat.le_trans HB1.out.size h)
    have htry := try_calls hmW (Nat.le_trans hB hkA.1) (by omega) he0 he
    have HTRY := Aside0.mk htry
    have HKA := Aside0.mk hkA
    have HBA := Aside0.mk hbA
    have HWA := Aside0.mk hwA
    clear hmW hkW hbW hwW HX cn fn c12 HMD hlim hsize hown hone c10 f11 c11 htry hkA hbA hwA
    go_wp2_with (go_at_call 40; refine (HTRY.out).mono ?_; rintro e w2 ⟨v, rfl, hr, ha⟩; have HR2 := Aside0.mk hr; have HA2 := Aside0.mk ha; clear hr ha)
    go_ret2
    exact ⟨_, rfl, Kd.R_lower HR2.out HKA.out.1, After.then_ HKA.out HBA.out HWA.out HA2.out⟩
end
end Go.Proofs.Ytcfodmnpmjkpbaa.Ep
