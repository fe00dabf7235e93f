import Derived.Test.YtgdadefobhfkcaaHy0
namespace Go.Proofs.Ytgdadefobhfkcaa.Hy
open Go.RowKit Go.Proofs.YtgdadefobhfkcaaW.PrintWords Go.Proofs.YtgdadefobhfkcaaW.PrintLast Go.Proofs.YtgdadefobhfkcaaW.PrintMore
set_option linter.unusedVariables false
set_option linter.unusedSimpArgs false
theorem ints_len (l : List Int) : (ints l).length = l.length := by simp [ints]
theorem hold_cell {w : World} {h : Nat} {l : List Int} {tl : List Value} (hh : w.heap[h]? = some (.cells (ints l ++ tl).toArray 66 (0, 0))) (j : Nat) (hj : j < l.length) : w.cell? ⟨h, j, none⟩ = some (.int .i64 (l.getD j 0)) := by
  rw [Go.Lib.cell_of_heap hh]
  have h2 : j < (ints l).length := by rw [ints, List.length_map]; exact hj
  simp [List.getElem?_append_left h2]
  simp [ints, hj]
theorem man_keep {B : Nat} {w w' : World} {g : Nat} {A : Option Addr} {wv : Value} {m : HM} (hm : Man B w g A wv m) (hk : ∀ k, foot g A wv k → w'.heap[k]? = w.heap[k]?) : Man B w' g A wv m := by
  obtain ⟨cp, htop⟩ := hm.top
  refine ⟨hm.len, hm.small, hm.bg, ⟨cp, (hk g (.inl rfl)).trans htop⟩, hm.none_, fun a ha => ?_, ?_⟩
  · obtain ⟨h, e, h1, tl, h2⟩ := hm.row a ha
    exact ⟨h, e, h1, tl, (hk h (.inr (.inl ⟨a, ha, by rw [e]⟩))).trans h2⟩
  · obtain ⟨h1, h2⟩ := hm.own
    refine ⟨h1, h2.imp_right ?_⟩
    rintro ⟨b, cap, cur, e, h3, h4, h5⟩
    exact ⟨b, cap, cur, e, h3, (hk b (.inr (.inr (by rw [e]; rfl)))).trans h4, h5⟩
theorem ne_of_tag {w : World} {a b : Nat} {c d : Array Value} {s t : TypeId} {p q : Nat × Nat} (h : w.heap[a]? = some (.cells c s p)) (k : w.heap[b]? = some (.cells d t q)) (hne : s ≠ t) : a ≠ b := by
  rintro rfl
  rw [h] at k
  injection k with k
  injection k with _ k _
  exact hne k
theorem own_tag {B : Nat} {w : World} {e : TypeId} {size n : Nat} {v : Value} {xs : List Value} (ho : w.ownsRow B e size v n xs) (k : Nat) (hk : v.ownBlock = some k) : ∃ c, w.heap[k]? = some (.cells c e (0, 0)) := by
  obtain ⟨_, ⟨e, _⟩ | ⟨b, cap, cur, e, h3, h4, h5⟩⟩ := ho
  · rw [e] at hk; exact absurd hk (by simp [Value.ownBlock])
  · rw [e] at hk
    injection hk with hk
    exact ⟨cur, hk ▸ h4⟩
theorem setCell_heap {w : World} {h j : Nat} {l : List Int} {tl : List Value} (hh : w.heap[h]? = some (.cells (ints l ++ tl).toArray 66 (0, 0))) (hj : j < l.length) (a : Int) : (w.setCell ⟨h, j, none⟩ (.int .i64 a)).heap[h]? = some (.cells (ints (l.set j a) ++ tl).toArray 66 (0, 0)) := by
  rw [setCell_eq_setRow w h j _ _ _ _ hh, setRow_heap w h _ _ _ _ hh]
  have h2 : j < (ints l).length := by rw [ints, List.length_map]; exact hj
  simp only [List.setIfInBounds_toArray, List.set_append_left _ _ h2]
  simp only [ints, List.map_set]
theorem setCell_other (w : World) (h j k : Nat) (v : Value) (hne : k ≠ h) : (w.setCell ⟨h, j, none⟩ v).heap[k]? = w.heap[k]? := Below.heap_setCell w ⟨h, j, none⟩ v k hne
theorem kept_cell (w : World) {S : Nat → Prop} {h j : Nat} (hS : S h) (v : Value) : Kept w (w.setCell ⟨h, j, none⟩ v) S := (Kept.refl w S).setCell (p := ⟨h, j, none⟩) (.inl hS) v
theorem below_cell (w : World) {B h j : Nat} (hB : B ≤ h) (v : Value) : Below B w (w.setCell ⟨h, j, none⟩ v) := (Below.refl B w).setCell (p := ⟨h, j, none⟩) hB v
theorem man_hold {B : Nat} {w : World} {g h : Nat} {wv : Value} {m : HM} {tl : List Value} (hm : Man B w g (some ⟨h, 0, none⟩) wv m) (hh : w.heap[h]? = some (.cells (ints m.hs ++ tl).toArray 66 (0, 0))) (j : Nat) (a : Int) (hj : j < m.hs.length) :
    Man B (w.setCell ⟨h, j, none⟩ (.int .i64 a)) g (some ⟨h, 0, none⟩) wv { m with hs := m.hs.set j a } := by
  obtain ⟨cp, htop⟩ := hm.top
  have hg : g ≠ h := ne_of_tag htop hh (by decide)
  refine ⟨by simpa using hm.len, hm.small, hm.bg, ?_, hm.none_, ?_, ?_⟩
  · exact ⟨cp, by rw [setCell_other _ _ _ _ _ hg]; exact htop⟩
  · intro b hb
    obtain ⟨h', e, h1, _, h2⟩ := hm.row b hb
    injection hb with hb
    subst hb
    injection e with e
    subst e
    exact ⟨h, rfl, h1, tl, setCell_heap hh hj a⟩
  · obtain ⟨h1, h2⟩ := hm.own
    refine ⟨h1, h2.imp_right ?_⟩
    rintro ⟨b, cap, cur, e, h3, h4, h5⟩
    refine ⟨b, cap, cur, e, h3, ?_, h5⟩
    rw [setCell_other _ _ _ _ _ (ne_of_tag h4 hh (by decide))]
    exact h4
/-- The manager behind a hold. -/
def held (m : HM) (t k : Nat) (a : Int) : HM := { m with hs := m.hs.set (t * 3 + k) a }
set_option maxHeartbeats 8000000 in
set_option maxRecDepth 100000 in
theorem hold_calls {B : Nat} {w : World} {g : Nat} {A : Option Addr} {wv : Value} {m : HM} (hm : Man B w g A wv m) (t k a : Int) (h1 : bad m t = false) (h2 : 0 ≤ k) (h3 : k < 3) (h4 : 0 ≤ a) :
    Calls Try.prog 25 #[.pointer (some ⟨g, 0, none⟩), .int .i64 t, .int .i64 k, .int .i64 a] w fun e w' => e = .returned (.tuple #[.slice none 0 0, .int .i64 0]) ∧ Man B w' g A wv (held m t.toNat k.toNat a) ∧ Kept w w' (foot g A wv) ∧ Below B w w' := by
  have hc := no_calls hm t
  rw [h1] at hc
  obtain ⟨cp, h0⟩ := hm.c0
  simp only [bad, Bool.or_eq_false_iff, decide_eq_false_iff_not] at h1
  obtain ⟨tn, rfl⟩ := Int.eq_ofNat_of_zero_le (show 0 ≤ t by omega)
  obtain ⟨kn, rfl⟩ := Int.eq_ofNat_of_zero_le h2
  have hA : A ≠ none := fun hA => by have := hm.none_ hA; omega
  obtain ⟨ad, rfl⟩ := Option.ne_none_iff_exists'.1 hA
  obtain ⟨h, rfl, hB, tl, hh⟩ := hm.row _ rfl
  have hlen := hm.len
  have hcell := hold_cell hh (tn * 3 + kn) (by omega)
  have hfr := blk_frozen hh (tn * 3 + kn)
  have HM_ := Aside0.mk hm
  have HH := Aside0.mk hh
  obtain ⟨n, hs, ws⟩ := m
  simp only at h0 h1 hlen hcell HH
  clear hm hh
  go_enter Try.func25, Try.ntmps25
  go_wp2_with (go_at_call 41; refine hc.mono ?_; rintro e w' ⟨rfl, rfl⟩)
  go_ret2
  exact ⟨rfl, man_hold HM_.out HH.out (tn * 3 + kn) a (by show _ < hs.length; omega), kept_cell _ (.inr (.inl ⟨_, rfl, rfl⟩)) _, below_cell _ hB _⟩
/-- The manager behind Out. -/
def outed (m : HM) (t : Nat) : HM := { m with hs := ((m.hs.set (t * 3) 0).set (t * 3 + 1) 0).set (t * 3 + 2) 0 }
set_option maxHeartbeats 8000000 in
set_option maxRecDepth 100000 in
theorem out_calls {B : Nat} {w : World} {g : Nat} {A : Option Addr} {wv : Value} {m : HM} (hm : Man B w g A wv m) (t : Int) (h1 : bad m t = false) :
    Calls Try.prog 27 #[.pointer (some ⟨g, 0, none⟩), .int .i64 t] w fun e w' => e = .returned (.tuple #[.slice none 0 0, .int .i64 0]) ∧ Man B w' g A wv (outed m t.toNat) ∧ Kept w w' (foot g A wv) ∧ Below B w w' := by
  have hc := no_calls hm t
  rw [h1] at hc
  obtain ⟨cp, h0⟩ := hm.c0
  simp only [bad, Bool.or_eq_false_iff, decide_eq_false_iff_not] at h1
  obtain ⟨tn, rfl⟩ := Int.eq_ofNat_of_zero_le (show 0 ≤ t by omega)
  have hA : A ≠ none := fun hA => by have := hm.none_ hA; omega
  obtain ⟨ad, rfl⟩ := Option.ne_none_iff_exists'.1 hA
  obtain ⟨h, rfl, hB, tl, hh⟩ := hm.row _ rfl
  have hlen := hm.len
  have hcell0 := hold_cell hh (tn * 3) (by omega)
  have hcell1 := hold_cell hh (tn * 3 + 1) (by omega)
  have hcell2 := hold_cell hh (tn * 3 + 2) (by omega)
  have hfr := fun j => blk_frozen hh j
  have HM_ := Aside0.mk hm
  have HH := Aside0.mk hh
  obtain ⟨n, hs, ws⟩ := m
  simp only at h0 h1 hlen hcell0 hcell1 hcell2 HH
  clear hm hh
  go_enter Try.func27, Try.ntmps27
  go_wp2_with (go_at_call 41; refine hc.mono ?_; rintro e w' ⟨rfl, rfl⟩)
  go_ret2
  have e0 := man_hold HM_.out HH.out (tn * 3) 0 (by show _ < hs.length; omega)
  have g0 := setCell_heap HH.out (show tn * 3 < hs.length by omega) 0
  have e1 := man_hold e0 g0 (tn * 3 + 1) 0 (by show _ < (hs.set _ _).length; rw [List.length_set]; omega)
  have g1 := setCell_heap g0 (show tn * 3 + 1 < (hs.set (tn * 3) 0).length by rw [List.length_set]; omega) 0
  have e2 := man_hold e1 g1 (tn * 3 + 2) 0 (by show _ < ((hs.set _ _).set _ _).length; rw [List.length_set, List.length_set]; omega)
  have f : foot g (some ⟨h, 0, none⟩) wv h := .inr (.inl ⟨_, rfl, rfl⟩)
  exact ⟨rfl, e2, (((Kept.refl _ _).setCell (p := ⟨h, _, none⟩) (.inl f) _).setCell (p := ⟨h, _, none⟩) (.inl f) _).setCell (p := ⟨h, _, none⟩) (.inl f) _,
    (((Below.refl _ _).setCell (p := ⟨h, _, none⟩) hB _).setCell (p := ⟨h, _, none⟩) hB _).setCell (p := ⟨h, _, none⟩) hB _⟩
theorem alloc_size (w : World) (o : Obj) : (w.alloc o).heap.size = w.heap.size + 1 := by show (w.heap.push o).size = _; simp
theorem flat_len (l : List (Int × Int)) : (flat l).length = l.length * 2 := by
  induction l with
  | nil => rfl
  | cons p r ih => simp [flat, ih]; omega
theorem flat_get (l : List (Int × Int)) : ∀ j, j < l.length → (flat l)[j * 2]? = some (.int .i64 (l.getD j (0, 0)).1) ∧ (flat l)[j * 2 + 1]? = some (.int .i64 (l.getD j (0, 0)).2) := by
  induction l with
  | nil => intro j h; simp at h
  | cons p r ih =>
    intro j h
    cases j with
    | zero => simp [flat]
    | succ j =>
      have := ih j (by simpa using h)
      rw [show (j + 1) * 2 = j * 2 + 1 + 1 by omega]
      simpa [flat] using this
/-- An element of a row of what waits. -/
theorem wait_cell {B : Nat} {w : World} {v : Value} {l : List (Int × Int)} (ho : w.ownsRow B 61 2 v l.length (flat l)) (j : Nat) (hj : j < l.length) :
    ∃ b cap, v = .slice (some ⟨b, 0, none⟩) l.length cap ∧ B ≤ b ∧ b < w.heap.size ∧ w.cell? ⟨b, j * 2, none⟩ = some (.int .i64 (l.getD j (0, 0)).1) ∧ w.cell? ⟨b, j * 2 + 1, none⟩ = some (.int .i64 (l.getD j (0, 0)).2) := by
  obtain ⟨h1, ⟨e, h⟩ | ⟨b, cap, cur, e, h3, h4, h5, h6, h7, h8⟩⟩ := ho
  · omega
  · have hg := flat_get l j hj
    rw [← h8, List.getElem?_take_of_lt (by omega), List.getElem?_take_of_lt (by omega)] at hg
    refine ⟨b, cap, e, h3, (Array.getElem?_eq_some_iff.1 h4).1, ?_, ?_⟩
    · rw [Go.Lib.cell_of_heap h4]; simpa using hg.1
    · rw [Go.Lib.cell_of_heap h4]; simpa using hg.2
theorem info3 : (Try.prog.info? 3).map (fun i => (i.zero, i.size, i.bytes)) = some (some (.int .i64 0), 1, 8) := by kernel_rfl
theorem info61 : (Try.prog.info? 61).map (fun i => (i.zero, i.size, i.bytes)) = some (some (.agg #[.int .i64 0, .int .i64 0]), 2, 16) := by kernel_rfl
set_option maxHeartbeats 8000000 in
set_option maxRecDepth 100000 in
theorem waiting_calls {B : Nat} {w : World} {g : Nat} {A : Option Addr} {wv : Value} {m : HM} (hm : Man B w g A wv m) (hl : m.ws.length ≤ 1000000) :
    Calls Try.prog 13 #[.pointer (some ⟨g, 0, none⟩)] w fun e w' => ∃ v, e = .returned v ∧ Kd.R (Kd.int .i64) 3 w' w.heap.size (fun _ => True) v (m.ws.map (·.2)) ∧ Below w.heap.size w w' := by
  have h1 := hm.c1
  have HM_ := Aside0.mk hm
  obtain ⟨n, hs, ws⟩ := m
  simp only at h1 hl ⊢
  have hlen : ∃ A0 c0, wv = .slice A0 ws.length c0 := by
    obtain ⟨_, ⟨e, h⟩ | ⟨b, cap, cur, e, _⟩⟩ := hm.own
    · exact ⟨none, 0, by rw [e, h]⟩
    · exact ⟨_, _, e⟩
  obtain ⟨A0, c0, rfl⟩ := hlen
  clear hm
  have HB := Aside0.mk (Below.refl w.heap.size w)
  go_enter Try.func13, Try.ntmps13
  go_wp2
  go_loopg [3, 13, 5] ws.length (fun gg v3 v13 v5 w' => ∃ kk : Nat, kk ≤ ws.length ∧ ws.length - kk ≤ gg ∧ v13 = .int .i64 kk ∧ Aside0 (Kd.R (Kd.int .i64) 3 w' w.heap.size (fun _ => True) v3 ((ws.take kk).map (·.2))) ∧ Aside0 (Below w.heap.size w w'))
  case atStart => exact ⟨0, Nat.zero_le _, by omega, rfl, ⟨by simpa using Kd.R_nil _ _ _ _ _⟩, HB⟩
  case round =>
    clear HB h1
    obtain ⟨kk, hkk, hgg, rfl, HO, HB⟩ := hrel
    by_cases hlt : kk < ws.length
    · have hown := HM_.out.own
      simp only at hown
      obtain ⟨b, cap, e, hb1, hb2, hx, hy⟩ := wait_cell hown kk hlt
      injection e with e1 _ e2
      subst e1; subst e2
      replace hx := (HB.out.cell (p := ⟨b, kk * 2, none⟩) hb2).trans hx
      replace hy := (HB.out.cell (p := ⟨b, kk * 2 + 1, none⟩) hb2).trans hy
      clear hown HM_
      have hsn : (ws.take (kk + 1)).map (·.2) = (ws.take kk).map (·.2) ++ [(ws.getD kk (0, 0)).2] := by
        rw [List.take_succ_eq_append_getElem hlt, List.map_append]; congr 1; simp [hlt]
      have hLl : ((ws.take kk).map (·.2)).length ≤ 1000000 := by simp; omega
      generalize (ws.getD kk (0, 0)).1 = x at hx
      generalize (ws.getD kk (0, 0)).2 = y at hy hsn
      generalize (ws.take kk).map (·.2) = L at HO hsn hLl
      have hlim : (L.length + 1) * 8 ≤ 140737488355328 := by omega
      have HSN := Aside0.mk hsn
      clear hsn hLl
      go_wp2_with ((with_reducible refine gate_builtin (b := .append) (xs := #[.tmp 17, .tmp 20]) rfl ?_); at_builtin; refine Kd.R_append (Kd.int .i64) (w0 := w) w.heap.size rfl (.tmp 17) (.tmp 20) 29 3 (.int .i64 0) 8 rfl Try.underlying29 info3 rfl (by decide) (by omega) u3 L y [.int .i64 y] (fun _ => True) (fun _ => False) rfl (by rw [alloc_size]; rfl) ?aP (fun _ hk => hk.elim) ?aF ?aO ?aB ?aS ?aL ?_; (case aP => exact rfl); (case aB => exact (by repeat (first | (with_reducible first | exact HB.out | apply below_alloc | apply pw_below_drewN | apply below_drew1) | exact HB.out))); (case aF => exact (fun _ _ => trivial)); (case aO => exact (by (with_reducible repeat (first | apply Kd.R_alloc | apply Kd.R_drewN | apply Kd.R_drew)); exact HO.out)); (case aS => exact (below_size (by repeat (first | (with_reducible first | exact HB.out | apply below_alloc | apply pw_below_drewN | apply below_drew1) | exact HB.out)))); (case aL => omega); intro v1 wn ho hb hg hat; have n8_ := Aside0.mk hb; have n9_ := Aside0.mk ho; clear HB; clear HO; have HB := n8_; have HN := n9_; clear n8_ n9_; clear ho hb hg hat)
      go_roundg (ws.length - (kk + 1))
      case measure => omega
      case rel => exact ⟨kk + 1, by omega, by omega, by go_num, by rw [HSN.out]; exact HN, HB⟩
    · go_wp2
      go_ret
      have : kk = ws.length := by omega
      subst this
      exact ⟨_, rfl, by simpa using HO.out, HB.out⟩
theorem waiting_nil (w : World) : Calls Try.prog 13 #[.pointer none] w fun e w' => e = .returned (.slice none 0 0) ∧ w' = w := by
  go_enter Try.func13, Try.ntmps13
  go_wp2
  go_ret
  exact ⟨rfl, rfl⟩
end Go.Proofs.Ytgdadefobhfkcaa.Hy
