/- In, Out, Hold, Born of the epoch manager: plain lemmas; no condition. -/
import Derived.Test.YtcfodmnpmjkpbaaE0
namespace Go.Proofs.Ytcfodmnpmjkpbaa.Ep
open Go.RowKit Go.Proofs.YtcfodmnpmjkpbaaW.PrintWords Go.Proofs.YtcfodmnpmjkpbaaW.PrintLast Go.Proofs.YtcfodmnpmjkpbaaW.PrintMore
set_option linter.unusedVariables false
set_option linter.unusedSimpArgs false
set_option maxHeartbeats 8000000
set_option maxRecDepth 100000
theorem own_int {B : Nat} {w : World} {v : Value} {l : List Int} (ho : w.ownsRow B 3 1 v l.length (ints l)) (j : Nat) (hj : j < l.length) :
    ∃ b cap cur, v = .slice (some ⟨b, 0, none⟩) l.length cap ∧ B ≤ b ∧ w.heap[b]? = some (.cells cur 3 (0, 0)) ∧ w.cell? ⟨b, j, none⟩ = some (.int .i64 (l.getD j 0)) ∧ j < cur.size := by
  obtain ⟨h1, ⟨e, h⟩ | ⟨b, cap, cur, e, h3, h4, h5, h6, h7, h8⟩⟩ := ho
  · omega
  · refine ⟨b, cap, cur, e, h3, h4, ?_, by omega⟩
    rw [Go.Lib.cell_of_heap h4]
    have : (ints l)[j]? = some (.int .i64 (l.getD j 0)) := by simp [ints, hj]
    rw [← h8, List.getElem?_take_of_lt (by omega)] at this
    simpa using this
theorem own_put {B : Nat} {w : World} {b cap : Nat} {l : List Int} (ho : w.ownsRow B 3 1 (.slice (some ⟨b, 0, none⟩) l.length cap) l.length (ints l)) (j : Nat) (hj : j < l.length) (x : Int) :
    (w.setCell ⟨b, j, none⟩ (.int .i64 x)).ownsRow B 3 1 (.slice (some ⟨b, 0, none⟩) (l.set j x).length cap) (l.set j x).length (ints (l.set j x)) := by
  obtain ⟨h1, ⟨e, h⟩ | ⟨b', cap', cur, e, h3, h4, h5, h6, h7, h8⟩⟩ := ho
  · omega
  · injection e with e1 _ e2
    injection e1 with e1
    injection e1 with e1
    subst e1; subst e2
    refine ⟨by simp [ints], .inr ⟨b, cap, cur.setIfInBounds j (.int .i64 x), rfl, h3, blk_set h4 j _, by simpa using h5, h6, by simpa using h7, ?_⟩⟩
    rw [Array.toList_setIfInBounds, List.length_set, ints, List.map_set, List.take_set, h8]
    rfl
theorem man_th {B : Nat} {w : World} {g b cap : Nat} {wv : Value} {m : EM} (hm : Man B w g (.slice (some ⟨b, 0, none⟩) m.th.length cap) wv m) (j : Nat) (hj : j < m.th.length) (x : Int) :
    Man B (w.setCell ⟨b, j, none⟩ (.int .i64 x)) g (.slice (some ⟨b, 0, none⟩) m.th.length cap) wv { m with th := m.th.set j x } ∧ Kept w (w.setCell ⟨b, j, none⟩ (.int .i64 x)) (foot g (.slice (some ⟨b, 0, none⟩) m.th.length cap) wv) ∧ Below B w (w.setCell ⟨b, j, none⟩ (.int .i64 x)) := by
  obtain ⟨c, hc⟩ := own_tag hm.tow b rfl
  have hB := own_base hm.tow b rfl
  have hne : g ≠ b := ne_of_tag hm.top hc (by decide)
  refine ⟨⟨by simpa using hm.small, hm.bg, ?_, ?_, ?_⟩, (Kept.refl w _).setCell (p := ⟨b, j, none⟩) (.inl (.inr (.inl rfl))) _, (Below.refl B w).setCell (p := ⟨b, j, none⟩) hB _⟩
  · rw [Below.heap_setCell w ⟨b, j, none⟩ _ g hne]; exact hm.top
  · have := own_put hm.tow j hj x
    simpa using this
  · refine own_setCell hm.own (p := ⟨b, j, none⟩) ?_ _
    intro e
    obtain ⟨c2, hc2⟩ := own_tag hm.own b e.symm
    exact ne_of_tag hc hc2 (by decide) rfl
/-- The manager behind In, Out. -/
def inned (m : EM) (t : Nat) : EM := { m with th := m.th.set t m.ep }
def outed (m : EM) (t : Nat) : EM := { m with th := m.th.set t (-1) }
theorem bad_zero {m : EM} (h0 : 0 < m.th.length) : bad m 0 = false := by
  unfold bad
  rw [Bool.or_eq_false_iff]
  exact ⟨by decide, decide_eq_false (by omega)⟩
/-- What a deed leaves. -/
def After (B : Nat) (w : World) (g : Nat) (tv wv : Value) (m' : EM) (w' : World) : Prop :=
  ∃ wv', Man B w' g tv wv' m' ∧ Kept w w' (foot g tv wv) ∧ Below B w w' ∧ ∀ k, wv'.ownBlock = some k → wv.ownBlock = some k ∨ w.heap.size ≤ k
theorem After.grow {B : Nat} {w w' : World} {g : Nat} {tv wv : Value} {m : EM} (hm : Man B w g tv wv m) (hB : B ≤ w.heap.size) (hb : Below w.heap.size w w') : After B w g tv wv m w' :=
  ⟨wv, hm.grow hb, Kept.of_below hb _, hb.mono hB, fun k hk => .inl hk⟩
theorem After.then_ {B : Nat} {w w1 w2 : World} {g : Nat} {tv wv wv1 : Value} {m2 : EM} (hk : Kept w w1 (foot g tv wv)) (hb : Below B w w1) (hw : ∀ k, wv1.ownBlock = some k → wv.ownBlock = some k ∨ w.heap.size ≤ k) (h : After B w1 g tv wv1 m2 w2) : After B w g tv wv m2 w2 := by
  obtain ⟨wv2, h1, h2, h3, h4⟩ := h
  refine ⟨wv2, h1, hk.then_ h2 (fun k hf => ?_), hb.trans h3, fun k hk2 => ?_⟩
  · rcases hf with rfl | hf | hf
    · exact .inl (.inl rfl)
    · exact .inl (.inr (.inl hf))
    · rcases hw k hf with h | h
      · exact .inl (.inr (.inr h))
      · exact .inr h
  · rcases h4 k hk2 with h | h
    · exact hw k h
    · exact .inr (Nat.le_trans hk.1 h)
section
variable {B : Nat} {w : World} {g : Nat} {tv wv : Value} {m : EM}
theorem in_bad (hm : Man B w g tv wv m) (t : Int) (hb : bad m t = true) :
    Calls Try.prog 23 #[.pointer (some ⟨g, 0, none⟩), .int .i64 t] w fun e w' => e = .returned (.tuple #[.slice none 0 0, .int .i64 1]) ∧ w' = w := by
  have hc := has_calls hm t
  rw [hb] at hc
  clear hm hb
  go_enter Try.func23, Try.ntmps23
  go_wp2_with (go_at_call 38; refine hc.mono ?_; rintro e w' ⟨rfl, rfl⟩)
  go_ret2
  exact ⟨rfl, rfl⟩
theorem After.drew {w' : World} {m' : EM} (h : After B w g tv wv m' w') : After B w g tv wv m' w'.drew := by
  obtain ⟨wv2, h1, h2, h3, h4⟩ := h
  exact ⟨wv2, man_keep h1 (fun _ _ => rfl), h2, below_drew1 h3, h4⟩
theorem After.drewN {w' : World} {m' : EM} (h : After B w g tv wv m' w') (n : Nat) : After B w g tv wv m' (w'.drewN n) := by
  obtain ⟨wv2, h1, h2, h3, h4⟩ := h
  exact ⟨wv2, man_keep h1 (fun _ _ => rfl), h2, pw_below_drewN h3 n, h4⟩
theorem in_good (hm : Man B w g tv wv m) (t : Int) (hb : bad m t = false) :
    Calls Try.prog 23 #[.pointer (some ⟨g, 0, none⟩), .int .i64 t] w fun e w' => e = .returned (.tuple #[.slice none 0 0, .int .i64 0]) ∧ After B w g tv wv (inned m t.toNat) w' := by
  have hc := has_calls hm t
  rw [hb] at hc
  simp only [bad, Bool.or_eq_false_iff, decide_eq_false_iff_not] at hb
  obtain ⟨tn, rfl⟩ := Int.eq_ofNat_of_zero_le (show 0 ≤ t by omega)
  obtain ⟨b, cap, cur, rfl, hB2, hh, hcell, hcur⟩ := own_int hm.tow tn (by omega)
  have hM := man_th hm tn (by omega) m.ep
  have c0 := hm.c0
  have c1 := hm.c1
  have hfr := blk_frozen hh tn
  have HM := Aside0.mk hM
  clear hh hm hM
  obtain ⟨ep, th, ws⟩ := m
  simp only at hb hcell c0 c1 HM
  have hlt : (tn : Int) < (th.length : Int) := by omega
  have hlt2 : tn < th.length := by omega
  clear hb
  go_enter Try.func23, Try.ntmps23
  go_wp2_with (go_at_call 38; refine hc.mono ?_; rintro e w' ⟨rfl, rfl⟩)
  go_region_with (fail)
  all_goals go_wp2
  all_goals go_ret2
  all_goals exact ⟨rfl, After.drew ⟨wv, HM.out.1, HM.out.2.1, HM.out.2.2, fun k hk => .inl hk⟩⟩
theorem out_bad (hm : Man B w g tv wv m) (t : Int) (hb : bad m t = true) :
    Calls Try.prog 26 #[.pointer (some ⟨g, 0, none⟩), .int .i64 t] w fun e w' => e = .returned (.tuple #[.slice none 0 0, .int .i64 1]) ∧ w' = w := by
  have hc := has_calls hm t
  rw [hb] at hc
  clear hm hb
  go_enter Try.func26, Try.ntmps26
  go_wp2_with (go_at_call 38; refine hc.mono ?_; rintro e w' ⟨rfl, rfl⟩)
  go_ret2
  exact ⟨rfl, rfl⟩
theorem out_good (hm : Man B w g tv wv m) (t : Int) (hb : bad m t = false) :
    Calls Try.prog 26 #[.pointer (some ⟨g, 0, none⟩), .int .i64 t] w fun e w' => e = .returned (.tuple #[.slice none 0 0, .int .i64 0]) ∧ After B w g tv wv (outed m t.toNat) w' := by
  have hc := has_calls hm t
  rw [hb] at hc
  simp only [bad, Bool.or_eq_false_iff, decide_eq_false_iff_not] at hb
  obtain ⟨tn, rfl⟩ := Int.eq_ofNat_of_zero_le (show 0 ≤ t by omega)
  obtain ⟨b, cap, cur, rfl, hB2, hh, hcell, hcur⟩ := own_int hm.tow tn (by omega)
  have hM := man_th hm tn (by omega) (-1)
  have c1 := hm.c1
  have hfr := blk_frozen hh tn
  have HM := Aside0.mk hM
  clear hh hm hM
  obtain ⟨ep, th, ws⟩ := m
  simp only at hb hcell c1 HM
  have hlt : (tn : Int) < (th.length : Int) := by omega
  have hlt2 : tn < th.length := by omega
  clear hb
  go_enter Try.func26, Try.ntmps26
  go_wp2_with (go_at_call 38; refine hc.mono ?_; rintro e w' ⟨rfl, rfl⟩)
  go_ret2
  exact ⟨rfl, ⟨wv, HM.out.1, HM.out.2.1, HM.out.2.2, fun k hk => .inl hk⟩⟩
/-- What Hold, Born tell. -/
def holdE (m : EM) (t k a : Int) : Int := if (bad m t || decide (k < 0) || decide (3 ≤ k) || decide (a < 0)) = true then 1 else 0
def bornE (m : EM) (a : Int) : Int := if (bad m 0 || decide (a < 1)) = true then 1 else 0
theorem hold_of (b : Bool) (w : World) (g : Option Addr) (t k a : Int) (hc : Calls Try.prog 38 #[.pointer g, .int .i64 t] w fun e w' => e = .returned (.bool (!b)) ∧ w' = w) :
    Calls Try.prog 28 #[.pointer g, .int .i64 t, .int .i64 k, .int .i64 a] w fun e w' => e = .returned (.tuple #[.slice none 0 0, .int .i64 (if (b || decide (k < 0) || decide (3 ≤ k) || decide (a < 0)) = true then 1 else 0)]) ∧ w' = w := by
  cases b
  · by_cases h1 : k < 0
    · have e : (if (false || decide (k < 0) || decide (3 ≤ k) || decide (a < 0)) = true then (1 : Int) else 0) = 1 := by simp [h1]
      rw [e]
      clear e
      go_enter Try.func28, Try.ntmps28
      go_wp2_with (go_at_call 38; refine hc.mono ?_; rintro e w' ⟨rfl, rfl⟩)
      go_ret2
      exact ⟨rfl, rfl⟩
    · by_cases h2 : 3 ≤ k
      · have e : (if (false || decide (k < 0) || decide (3 ≤ k) || decide (a < 0)) = true then (1 : Int) else 0) = 1 := by simp [h2]
        rw [e]
        clear e
        go_enter Try.func28, Try.ntmps28
        go_wp2_with (go_at_call 38; refine hc.mono ?_; rintro e w' ⟨rfl, rfl⟩)
        go_ret2
        exact ⟨rfl, rfl⟩
      · by_cases h3 : a < 0
        · have e : (if (false || decide (k < 0) || decide (3 ≤ k) || decide (a < 0)) = true then (1 : Int) else 0) = 1 := by simp [h3]
          rw [e]
          clear e
          go_enter Try.func28, Try.ntmps28
          go_wp2_with (go_at_call 38; refine hc.mono ?_; rintro e w' ⟨rfl, rfl⟩)
          go_ret2
          exact ⟨rfl, rfl⟩
        · have e : (if (false || decide (k < 0) || decide (3 ≤ k) || decide (a < 0)) = true then (1 : Int) else 0) = 0 := by simp [h1, h2, h3]
          rw [e]
          clear e
          go_enter Try.func28, Try.ntmps28
          go_wp2_with (go_at_call 38; refine hc.mono ?_; rintro e w' ⟨rfl, rfl⟩)
          go_ret2
          exact ⟨rfl, rfl⟩
  · have e : (if (true || decide (k < 0) || decide (3 ≤ k) || decide (a < 0)) = true then (1 : Int) else 0) = 1 := by simp
    rw [e]
    clear e
    go_enter Try.func28, Try.ntmps28
    go_wp2_with (go_at_call 38; refine hc.mono ?_; rintro e w' ⟨rfl, rfl⟩)
    go_ret2
    exact ⟨rfl, rfl⟩
theorem born_of (b : Bool) (w : World) (g : Option Addr) (a : Int) (hc : Calls Try.prog 38 #[.pointer g, .int .i64 0] w fun e w' => e = .returned (.bool (!b)) ∧ w' = w) :
    Calls Try.prog 29 #[.pointer g, .int .i64 a] w fun e w' => e = .returned (.int .i64 (if (b || decide (a < 1)) = true then 1 else 0)) ∧ w' = w := by
  cases b
  · by_cases h : a < 1
    · have e : (if (false || decide (a < 1)) = true then (1 : Int) else 0) = 1 := by simp [h]
      rw [e]
      clear e
      go_enter Try.func29, Try.ntmps29
      go_wp2_with (go_at_call 38; refine hc.mono ?_; rintro e w' ⟨rfl, rfl⟩)
      go_ret
      exact ⟨rfl, rfl⟩
    · have e : (if (false || decide (a < 1)) = true then (1 : Int) else 0) = 0 := by simp [h]
      rw [e]
      clear e
      go_enter Try.func29, Try.ntmps29
      go_wp2_with (go_at_call 38; refine hc.mono ?_; rintro e w' ⟨rfl, rfl⟩)
      go_ret
      exact ⟨rfl, rfl⟩
  · have e : (if (true || decide (a < 1)) = true then (1 : Int) else 0) = 1 := by simp
    rw [e]
    clear e
    go_enter Try.func29, Try.ntmps29
    go_wp2_with (go_at_call 38; refine hc.mono ?_; rintro e w' ⟨rfl, rfl⟩)
    go_ret
    exact ⟨rfl, rfl⟩
theorem hold_calls (hm : Man B w g tv wv m) (t k a : Int) : Calls Try.prog 28 #[.pointer (some ⟨g, 0, none⟩), .int .i64 t, .int .i64 k, .int .i64 a] w fun e w' => e = .returned (.tuple #[.slice none 0 0, .int .i64 (holdE m t k a)]) ∧ w' = w := hold_of _ _ _ _ _ _ (has_calls hm t)
theorem born_calls (hm : Man B w g tv wv m) (a : Int) : Calls Try.prog 29 #[.pointer (some ⟨g, 0, none⟩), .int .i64 a] w fun e w' => e = .returned (.int .i64 (bornE m a)) ∧ w' = w := born_of _ _ _ _ (has_calls hm 0)
theorem epoch_calls (hm : Man B w g tv wv m) (h0 : 0 < m.th.length) : Calls Try.prog 21 #[.pointer (some ⟨g, 0, none⟩)] w fun e w' => e = .returned (.int .i64 m.ep) ∧ w' = w := by
  have hc := has_calls hm 0
  have hb := bad_zero h0
  rw [hb] at hc
  have c0 := hm.c0
  clear hm hb h0
  go_enter Try.func21, Try.ntmps21
  go_wp2_with (go_at_call 38; refine hc.mono ?_; rintro e w' ⟨rfl, rfl⟩)
  go_ret
  exact ⟨rfl, rfl⟩
theorem epoch_no (g : Option Addr) (w : World) (hc : Calls Try.prog 38 #[.pointer g, .int .i64 0] w fun e w' => e = .returned (.bool false) ∧ w' = w) : Calls Try.prog 21 #[.pointer g] w fun e w' => e = .returned (.int .i64 0) ∧ w' = w := by
  go_enter Try.func21, Try.ntmps21
  go_wp2_with (go_at_call 38; refine hc.mono ?_; rintro e w' ⟨rfl, rfl⟩)
  go_ret
  exact ⟨rfl, rfl⟩
theorem flat_len (l : List (Int × Int)) : (flat l).length = l.length * 2 := by
  induction l with
  | nil => rfl
  | cons p r ih => simp [flat, ih]; omega
theorem flat_get (l : List (Int × Int)) : ∀ j, j < l.length → (flat l)[j * 2]? = some (.int .i64 (l.getD j (0, 0)).1) ∧ (flat l)[j * 2 + 1]? = some (.int .i64 (l.getD j (0, 0)).2) := by
  induction l with
  | nil => intro j h; simp at h
  | cons p r ih =>
    intro j h
    cases j with
    | zero => simp [flat]
    | succ j =>
      have := ih j (by simpa using h)
      rw [show (j + 1) * 2 = j * 2 + 1 + 1 by omega]
      simpa [flat] using this
/-- An element of a row of what waits. -/
theorem wait_cell {B : Nat} {w : World} {v : Value} {l : List (Int × Int)} (ho : w.ownsRow B 78 2 v l.length (flat l)) (j : Nat) (hj : j < l.length) :
    ∃ b cap, v = .slice (some ⟨b, 0, none⟩) l.length cap ∧ B ≤ b ∧ b < w.heap.size ∧ w.cell? ⟨b, j * 2, none⟩ = some (.int .i64 (l.getD j (0, 0)).1) ∧ w.cell? ⟨b, j * 2 + 1, none⟩ = some (.int .i64 (l.getD j (0, 0)).2) := by
  obtain ⟨h1, ⟨e, h⟩ | ⟨b, cap, cur, e, h3, h4, h5, h6, h7, h8⟩⟩ := ho
  · omega
  · have hg := flat_get l j hj
    rw [← h8, List.getElem?_take_of_lt (by omega), List.getElem?_take_of_lt (by omega)] at hg
    refine ⟨b, cap, e, h3, (Array.getElem?_eq_some_iff.1 h4).1, ?_, ?_⟩
    · rw [Go.Lib.cell_of_heap h4]; simpa using hg.1
    · rw [Go.Lib.cell_of_heap h4]; simpa using hg.2
theorem info3 : (Try.prog.info? 3).map (fun i => (i.zero, i.size, i.bytes)) = some (some (.int .i64 0), 1, 8) := by kernel_rfl
theorem info78 : (Try.prog.info? 78).map (fun i => (i.zero, i.size, i.bytes)) = some (some (.agg #[.int .i64 0, .int .i64 0]), 2, 16) := by kernel_rfl
theorem waiting_no (g : Option Addr) (w : World) (hc : Calls Try.prog 38 #[.pointer g, .int .i64 0] w fun e w' => e = .returned (.bool false) ∧ w' = w) : Calls Try.prog 19 #[.pointer g] w fun e w' => e = .returned (.slice none 0 0) ∧ w' = w := by
  go_enter Try.func19, Try.ntmps19
  go_wp2_with (go_at_call 38; refine hc.mono ?_; rintro e w' ⟨rfl, rfl⟩)
  go_ret
  exact ⟨rfl, rfl⟩
theorem waiting_calls (hm : Man B w g tv wv m) (h0 : 0 < m.th.length) (hl : m.ws.length ≤ 1000000) :
    Calls Try.prog 19 #[.pointer (some ⟨g, 0, none⟩)] w fun e w' => ∃ v, e = .returned v ∧ Kd.R (Kd.int .i64) 3 w' w.heap.size (fun _ => True) v (m.ws.map (·.1)) ∧ Below w.heap.size w w' := by
  have hcall := has_calls hm 0
  have hb := bad_zero h0
  rw [hb] at hcall
  have h1 := hm.c2
  have HM_ := Aside0.mk hm
  obtain ⟨A0, c0, rfl⟩ := own_form hm.own
  obtain ⟨ep, th, ws⟩ := m
  simp only at h1 hl ⊢
  clear hm hb h0
  have HB := Aside0.mk (Below.refl w.heap.size w)
  go_enter Try.func19, Try.ntmps19
  go_wp2_with (go_at_call 38; refine hcall.mono ?_; rintro e w' ⟨rfl, hw⟩; rw [hw]; clear hw)
  go_loopg [3, 14, 5] ws.length (fun gg v3 v14 v5 w' => ∃ kk : Nat, kk ≤ ws.length ∧ ws.length - kk ≤ gg ∧ v14 = .int .i64 kk ∧ Aside0 (Kd.R (Kd.int .i64) 3 w' w.heap.size (fun _ => True) v3 ((ws.take kk).map (·.1))) ∧ Aside0 (Below w.heap.size w w'))
  case atStart => exact ⟨0, Nat.zero_le _, by omega, rfl, ⟨by simpa using Kd.R_nil _ _ _ _ _⟩, HB⟩
  case round =>
    clear HB h1
    obtain ⟨kk, hkk, hgg, rfl, HO, HB⟩ := hrel
    by_cases hlt : kk < ws.length
    · have hown := HM_.out.own
      simp only at hown
      obtain ⟨b, cap, e, hb1, hb2, hx, hy⟩ := wait_cell hown kk hlt
      injection e with e1 _ e2
      subst e1; subst e2
      replace hx := (HB.out.cell (p := ⟨b, kk * 2, none⟩) hb2).trans hx
      replace hy := (HB.out.cell (p := ⟨b, kk * 2 + 1, none⟩) hb2).trans hy
      clear hown HM_
      have hsn : (ws.take (kk + 1)).map (·.1) = (ws.take kk).map (·.1) ++ [(ws.getD kk (0, 0)).1] := by
        rw [List.take_succ_eq_append_getElem hlt, List.map_append]; congr 1; simp [hlt]
      have hLl : ((ws.take kk).map (·.1)).length ≤ 1000000 := by simp; omega
      generalize (ws.getD kk (0, 0)).1 = x at hx hsn
      generalize (ws.getD kk (0, 0)).2 = y at hy
      generalize (ws.take kk).map (·.1) = L at HO hsn hLl
      have hlim : (L.length + 1) * 8 ≤ 140737488355328 := by omega
      have HSN := Aside0.mk hsn
      clear hsn hLl
      go_wp2_with ((with_reducible refine gate_builtin (b := .append) (xs := #[.tmp 18, .tmp 21]) rfl ?_); at_builtin; refine Kd.R_append (Kd.int .i64) (w0 := w) w.heap.size rfl (.tmp 18) (.tmp 21) 41 3 (.int .i64 0) 8 rfl Try.underlying41 info3 rfl (by decide) (by omega) u3 L x [.int .i64 x] (fun _ => True) (fun _ => False) rfl (by rw [alloc_size]; rfl) ?aP (fun _ hk => hk.elim) ?aF ?aO ?aB ?aS ?aL ?_; (case aP => exact rfl); (case aB => exact (by repeat (first | (with_reducible first | exact HB.out | apply below_alloc | apply pw_below_drewN | apply below_drew1) | exact HB.out))); (case aF => exact (fun _ _ => trivial)); (case aO => exact (by (with_reducible repeat (first | apply Kd.R_alloc | apply Kd.R_drewN | apply Kd.R_drew)); exact HO.out)); (case aS => exact (below_size (by repeat (first | (with_reducible first | exact HB.out | apply below_alloc | apply pw_below_drewN | apply below_drew1) | exact HB.out)))); (case aL => omega); intro v1 wn ho hb hg hat; have n8_ := Aside0.mk hb; have n9_ := Aside0.mk ho; clear HB; clear HO; have HB := n8_; have HN := n9_; clear n8_ n9_; clear ho hb hg hat)
      go_roundg (ws.length - (kk + 1))
      case measure => omega
      case rel => exact ⟨kk + 1, by omega, by omega, by go_num, by rw [HSN.out]; exact HN, HB⟩
    · go_wp2
      go_ret
      have : kk = ws.length := by omega
      subst this
      exact ⟨_, rfl, by simpa using HO.out, HB.out⟩
end
end Go.Proofs.Ytcfodmnpmjkpbaa.Ep
