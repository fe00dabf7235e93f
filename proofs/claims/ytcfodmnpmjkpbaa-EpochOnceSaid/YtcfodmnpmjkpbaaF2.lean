/- Thread, In, Hold, Bears of the reference: plain lemmas; no condition. -/
import Derived.Test.YtcfodmnpmjkpbaaF1
namespace Go.Proofs.Ytcfodmnpmjkpbaa.Ep
open Go.RowKit Go.Proofs.YtcfodmnpmjkpbaaW.PrintWords Go.Proofs.YtcfodmnpmjkpbaaW.PrintLast Go.Proofs.YtcfodmnpmjkpbaaW.PrintMore
set_option linter.unusedVariables false
set_option linter.unusedSimpArgs false
set_option maxHeartbeats 8000000
set_option maxRecDepth 100000
theorem RefB.put {cur : Array Value} {iv : Value} {m m' : RM} (h : RefB cur iv m) (i : Nat) (v : Value) (hi : i < 28) (hn : m'.n = m.n) (hnow : i = 3 → v = .int .i64 m'.now) (hnow' : i ≠ 3 → m'.now = m.now)
    (h0 : i ≠ 0) (h1 : i ≠ 1) (h2 : i ≠ 2) (hv : (4 ≤ i → i < 16 → ∃ u : Int, v = .int .i64 u)) (hins : ∀ t, t < 4 → if i = 16 + t then v = .bool (m'.ins t) else m'.ins t = m.ins t)
    (hlo : ∀ t, t < 4 → if i = 20 + t then v = .int .i64 (m'.lo t) else m'.lo t = m.lo t) (hhi : 24 ≤ i → ∃ u : Int, v = .int .i64 u) : RefB (cur.setIfInBounds i v) iv m' := by
  have hs := h.size
  have g : ∀ j, (cur.setIfInBounds i v)[j]? = if i = j then (if j < 30 then some v else none) else cur[j]? := fun j => by
    rw [Array.getElem?_setIfInBounds]
    by_cases e : i = j
    · subst e; simp [hs]
    · simp [e]
  refine ⟨by simpa using hs, ?_, ?_, ?_, ?_, fun j j1 j2 => ?_, fun t ht => ?_, fun t ht => ?_, fun t ht => ?_, ?_, ?_⟩
  · rw [g, if_neg h0]; exact h.k0
  · rw [g, if_neg h1]; exact h.k1
  · rw [g, if_neg h2, hn]; exact h.k2
  · rw [g]
    by_cases e : i = 3
    · rw [if_pos e, if_pos (by decide), hnow e]
    · rw [if_neg e, hnow' e]; exact h.k3
  · rw [g]
    by_cases e : i = j
    · subst e
      obtain ⟨u, hu⟩ := hv j1 j2
      exact ⟨u, by rw [if_pos rfl, if_pos (by omega), hu]⟩
    · rw [if_neg e]; exact h.hs j j1 j2
  · rw [g]
    have := hins t ht
    by_cases e : i = 16 + t
    · rw [if_pos e] at this
      rw [if_pos e, if_pos (by omega), this]
    · rw [if_neg e] at this
      rw [if_neg e, this]; exact h.ins t ht
  · rw [g]
    have := hlo t ht
    by_cases e : i = 20 + t
    · rw [if_pos e] at this
      rw [if_pos e, if_pos (by omega), this]
    · rw [if_neg e] at this
      rw [if_neg e, this]; exact h.lo t ht
  · rw [g]
    by_cases e : i = 24 + t
    · obtain ⟨u, hu⟩ := hhi (by omega)
      exact ⟨u, by rw [if_pos e, if_pos (by omega), hu]⟩
    · rw [if_neg e]; exact h.hi t ht
  · rw [g, if_neg (by omega)]; exact h.its
  · rw [g, if_neg (by omega)]; exact h.born
/-- No thread of the reference's manager. -/
def rbad (m : RM) (t : Int) : Bool := decide (t < 0) || decide ((m.n : Int) ≤ t)
/-- What an act leaves at the reference. -/
def RAfter (B : Nat) (w : World) (r : Nat) (iv : Value) (m' : RM) (w' : World) : Prop :=
  ∃ iv', Ref B w' r iv' m' ∧ Kept w w' (rfoot r iv) ∧ Below B w w' ∧ ∀ k, iv'.ownBlock = some k → iv.ownBlock = some k ∨ w.heap.size ≤ k
section
variable {B : Nat} {w : World} {r : Nat} {iv : Value} {m : RM}
theorem ref_keep {w' : World} (hr : Ref B w r iv m) (hk : ∀ k, rfoot r iv k → w'.heap[k]? = w.heap[k]?) : Ref B w' r iv m := by
  obtain ⟨cur, h1, h2⟩ := hr.top
  exact ⟨hr.small, hr.br, ⟨cur, (hk r (.inl rfl)).trans h1, h2⟩, own_move hr.own (fun k h => hk k (.inr h))⟩
theorem Ref.lt (hr : Ref B w r iv m) : r < w.heap.size := by
  obtain ⟨cur, h1, h2⟩ := hr.top
  exact blk_lt h1
theorem Ref.foot_lt (hr : Ref B w r iv m) (k : Nat) (hk : rfoot r iv k) : B ≤ k ∧ k < w.heap.size := by
  rcases hk with rfl | hk
  · exact ⟨hr.br, hr.lt⟩
  · exact ⟨own_base hr.own k hk, own_lt hr.own k hk⟩
theorem Ref.grow {w' : World} (hr : Ref B w r iv m) (hb : Below w.heap.size w w') : Ref B w' r iv m := ref_keep hr (fun k hk => hb.block k (hr.foot_lt k hk).2)
theorem RAfter.grow {w' : World} (hr : Ref B w r iv m) (hB : B ≤ w.heap.size) (hb : Below w.heap.size w w') : RAfter B w r iv m w' :=
  ⟨iv, hr.grow hb, Kept.of_below hb _, hb.mono hB, fun k hk => .inl hk⟩
theorem RAfter.refl (hr : Ref B w r iv m) : RAfter B w r iv m w := ⟨iv, hr, Kept.refl _ _, Below.refl _ _, fun k hk => .inl hk⟩
theorem RAfter.then_ {w1 w2 : World} {iv1 : Value} {m2 : RM} (hk : Kept w w1 (rfoot r iv)) (hb : Below B w w1) (hw : ∀ k, iv1.ownBlock = some k → iv.ownBlock = some k ∨ w.heap.size ≤ k) (h : RAfter B w1 r iv1 m2 w2) : RAfter B w r iv m2 w2 := by
  obtain ⟨iv2, h1, h2, h3, h4⟩ := h
  refine ⟨iv2, h1, hk.then_ h2 (fun k hf => ?_), hb.trans h3, fun k hk2 => ?_⟩
  · rcases hf with rfl | hf
    · exact .inl (.inl rfl)
    · rcases hw k hf with h | h
      · exact .inl (.inr h)
      · exact .inr h
  · rcases h4 k hk2 with h | h
    · exact hw k h
    · exact .inr (Nat.le_trans hk.1 h)
theorem RAfter.trans {w1 w2 : World} {m1 m2 : RM} (h : RAfter B w r iv m1 w1) (k : ∀ iv1, Ref B w1 r iv1 m1 → RAfter B w1 r iv1 m2 w2) : RAfter B w r iv m2 w2 := by
  obtain ⟨iv1, h1, h2, h3, h4⟩ := h
  exact RAfter.then_ h2 h3 h4 (k iv1 h1)
theorem RAfter.drew {w' : World} {m' : RM} (h : RAfter B w r iv m' w') : RAfter B w r iv m' w'.drew := by
  obtain ⟨iv2, h1, h2, h3, h4⟩ := h
  exact ⟨iv2, ref_keep h1 (fun _ _ => rfl), h2, below_drew1 h3, h4⟩
/-- A cell of the block is written. -/
theorem RAfter.cell {w' : World} {m' m2 : RM} {i : Nat} {v : Value} (h : RAfter B w r iv m' w') (hp : ∀ cur iv', RefB cur iv' m' → RefB (cur.setIfInBounds i v) iv' m2) (hn : m2.n = m'.n) (hi : m2.its = m'.its) : RAfter B w r iv m2 (w'.setCell ⟨r, i, none⟩ v) := by
  obtain ⟨iv2, h1, h2, h3, h4⟩ := h
  obtain ⟨cur, c1, c2⟩ := h1.top
  refine ⟨iv2, ⟨by rw [hn]; exact h1.small, h1.br, ⟨_, blk_set c1 i v, hp _ _ c2⟩, ?_⟩, h2.setCell (p := ⟨r, i, none⟩) (.inl (.inl rfl)) v, h3.setCell (p := ⟨r, i, none⟩) h1.br v, h4⟩
  rw [hi]
  refine own_setCell h1.own (p := ⟨r, i, none⟩) ?_ v
  intro e
  obtain ⟨c, hc⟩ := own_tag h1.own r e.symm
  exact ne_of_tag c1 hc (by decide) rfl
theorem thread_calls (hr : Ref B w r iv m) (t : Int) :
    Calls Try.prog 45 #[.pointer (some ⟨r, 0, none⟩), .int .i64 t] w fun e w' => e = .returned (.bool (!rbad m t)) ∧ w' = w := by
  obtain ⟨cur, c1, c2⟩ := hr.top
  have k0 : w.cell? ⟨r, 0, none⟩ = some (.bool true) := by rw [Go.Lib.cell_of_heap c1]; exact c2.k0
  have k2 : w.cell? ⟨r, 2, none⟩ = some (.int .i64 m.n) := by rw [Go.Lib.cell_of_heap c1]; exact c2.k2
  clear hr c1 c2
  by_cases h1 : t < 0
  · have e : rbad m t = true := by simp [rbad, h1]
    rw [e]
    have hd : decide (0 ≤ t) = false := by simpa using h1
    go_enter Try.func45, Try.ntmps45
    go_wp2
    go_ret
    exact ⟨rfl, rfl⟩
  · have e : (!rbad m t) = decide (t < (m.n : Int)) := by
      by_cases h2 : t < (m.n : Int)
      · have h3 : ¬ ((m.n : Int) ≤ t) := by omega
        simp [rbad, h1, h2, h3]
      · have h3 : (m.n : Int) ≤ t := by omega
        simp [rbad, h1, h2, h3]
    rw [e]
    clear e
    have hd : decide (0 ≤ t) = true := by simpa using h1
    go_enter Try.func45, Try.ntmps45
    go_wp2
    go_ret
    exact ⟨rfl, rfl⟩
def rinned (m : RM) (t : Nat) : RM := { m with ins := fun k => if k = t then true else m.ins k, lo := fun k => if k = t then m.now else m.lo k }
theorem rin_bad (hr : Ref B w r iv m) (t : Int) (hb : rbad m t = true) :
    Calls Try.prog 32 #[.pointer (some ⟨r, 0, none⟩), .int .i64 t] w fun e w' => e = .returned (.tuple #[.slice none 0 0, .int .i64 1]) ∧ w' = w := by
  have hc := thread_calls hr t
  rw [hb] at hc
  clear hr hb
  go_enter Try.func32, Try.ntmps32
  go_wp2_with (go_at_call 45; refine hc.mono ?_; rintro e w' ⟨rfl, rfl⟩)
  go_ret2
  exact ⟨rfl, rfl⟩
theorem rin_good (hr : Ref B w r iv m) (t : Int) (hb : rbad m t = false) :
    Calls Try.prog 32 #[.pointer (some ⟨r, 0, none⟩), .int .i64 t] w fun e w' => e = .returned (.tuple #[.slice none 0 0, .int .i64 0]) ∧ RAfter B w r iv (rinned m t.toNat) w' := by
  have hc := thread_calls hr t
  rw [hb] at hc
  simp only [rbad, Bool.or_eq_false_iff, decide_eq_false_iff_not] at hb
  obtain ⟨tn, rfl⟩ := Int.eq_ofNat_of_zero_le (show 0 ≤ t by omega)
  obtain ⟨cur, c1, c2⟩ := hr.top
  have hsm := hr.small
  have ht4 : tn < 4 := by omega
  have ht4i : (tn : Int) < 4 := by omega
  have k1 : w.cell? ⟨r, 1, none⟩ = some (.int .i64 2) := by rw [Go.Lib.cell_of_heap c1]; exact c2.k1
  have k3 : w.cell? ⟨r, 3, none⟩ = some (.int .i64 m.now) := by rw [Go.Lib.cell_of_heap c1]; exact c2.k3
  have ki : w.cell? ⟨r, 16 + tn, none⟩ = some (.bool (m.ins tn)) := by rw [Go.Lib.cell_of_heap c1]; exact c2.ins tn ht4
  have kl : w.cell? ⟨r, 20 + tn, none⟩ = some (.int .i64 (m.lo tn)) := by rw [Go.Lib.cell_of_heap c1]; exact c2.lo tn ht4
  obtain ⟨u, hu⟩ := c2.hi tn ht4
  have kh : w.cell? ⟨r, 24 + tn, none⟩ = some (.int .i64 u) := by rw [Go.Lib.cell_of_heap c1]; exact hu
  have fi := blk_frozen c1 (16 + tn)
  have fl := blk_frozen c1 (20 + tn)
  have fh := blk_frozen c1 (24 + tn)
  have HR := Aside0.mk hr
  clear hr c1 c2 hu hb hsm
  go_enter Try.func32, Try.ntmps32
  go_wp2_with (go_at_call 45; refine hc.mono ?_; rintro e w' ⟨rfl, rfl⟩)
  go_region_with (fail)
  all_goals go_wp2
  all_goals go_region_with (fail)
  all_goals go_wp2
  all_goals go_ret2
  all_goals
    refine ⟨rfl, RAfter.drew (RAfter.drew (RAfter.cell (m' := rinned m tn) (RAfter.cell (m' := { m with ins := fun k => if k = tn then true else m.ins k }) (RAfter.cell (RAfter.refl HR.out) (fun cur iv' h => ?_) rfl rfl) (fun cur iv' h => ?_) rfl rfl) (fun cur iv' h => ?_) rfl rfl))⟩
    · refine h.put (16 + tn) _ (by omega) rfl (fun e => by omega) (fun _ => rfl) (by omega) (by omega) (by omega) (fun _ _ => by omega) (fun t ht => ?_) (fun t ht => ?_) (fun _ => by omega)
      · by_cases e : 16 + tn = 16 + t
        · rw [if_pos e]
          have : t = tn := by omega
          simp [this]
        · rw [if_neg e]
          have : ¬ t = tn := by omega
          simp [this]
      · rw [if_neg (by omega)]
    · refine h.put (20 + tn) _ (by omega) rfl (fun e => by omega) (fun _ => rfl) (by omega) (by omega) (by omega) (fun _ _ => by omega) (fun t ht => ?_) (fun t ht => ?_) (fun _ => by omega)
      · rw [if_neg (by omega)]
        rfl
      · by_cases e : 20 + tn = 20 + t
        · rw [if_pos e]
          have : t = tn := by omega
          simp [rinned, this]
        · rw [if_neg e]
          have : ¬ t = tn := by omega
          simp [rinned, this]
    · refine h.put (24 + tn) _ (by omega) rfl (fun e => by omega) (fun _ => rfl) (by omega) (by omega) (by omega) (fun _ _ => by omega) (fun t ht => ?_) (fun t ht => ?_) (fun _ => ⟨_, rfl⟩)
      · rw [if_neg (by omega)]
        rfl
      · rw [if_neg (by omega)]
        rfl
/-- Hold: what it tells; what it leaves is no part of RM. -/
def rholdE (m : RM) (t k a : Int) : Int := if (rbad m t || decide (k < 0) || decide (3 ≤ k) || decide (a < 0)) = true then 1 else 0
theorem rhold_bad (hr : Ref B w r iv m) (t k a : Int) (hb : (rbad m t || decide (k < 0) || decide (3 ≤ k) || decide (a < 0)) = true) :
    Calls Try.prog 34 #[.pointer (some ⟨r, 0, none⟩), .int .i64 t, .int .i64 k, .int .i64 a] w fun e w' => e = .returned (.tuple #[.slice none 0 0, .int .i64 1]) ∧ w' = w := by
  have hc := thread_calls hr t
  generalize rbad m t = b at hc hb
  clear hr
  cases b
  · by_cases h1 : k < 0
    · clear hb
      go_enter Try.func34, Try.ntmps34
      go_wp2_with (go_at_call 45; refine hc.mono ?_; rintro e w' ⟨rfl, rfl⟩)
      go_ret2
      exact ⟨rfl, rfl⟩
    · by_cases h2 : 3 ≤ k
      · clear hb
        go_enter Try.func34, Try.ntmps34
        go_wp2_with (go_at_call 45; refine hc.mono ?_; rintro e w' ⟨rfl, rfl⟩)
        go_ret2
        exact ⟨rfl, rfl⟩
      · have h3 : a < 0 := by simpa [h1, h2] using hb
        clear hb
        go_enter Try.func34, Try.ntmps34
        go_wp2_with (go_at_call 45; refine hc.mono ?_; rintro e w' ⟨rfl, rfl⟩)
        go_ret2
        exact ⟨rfl, rfl⟩
  · clear hb
    go_enter Try.func34, Try.ntmps34
    go_wp2_with (go_at_call 45; refine hc.mono ?_; rintro e w' ⟨rfl, rfl⟩)
    go_ret2
    exact ⟨rfl, rfl⟩
theorem put_hold {cur : Array Value} {m : RM} {iv' : Value} (h : RefB cur iv' m) (i : Nat) (a : Int) (h1 : 4 ≤ i) (h2 : i < 16) : RefB (cur.setIfInBounds i (.int .i64 a)) iv' m :=
  h.put i _ (by omega) rfl (fun e => by omega) (fun _ => rfl) (by omega) (by omega) (by omega) (fun _ _ => ⟨_, rfl⟩) (fun t ht => by rw [if_neg (by omega)]) (fun t ht => by rw [if_neg (by omega)]) (fun _ => by omega)
theorem put_hi {cur : Array Value} {m : RM} {iv' : Value} (h : RefB cur iv' m) (t : Nat) (a : Int) (ht : t < 4) : RefB (cur.setIfInBounds (24 + t) (.int .i64 a)) iv' m :=
  h.put _ _ (by omega) rfl (fun e => by omega) (fun _ => rfl) (by omega) (by omega) (by omega) (fun _ _ => by omega) (fun t ht => by rw [if_neg (by omega)]) (fun t ht => by rw [if_neg (by omega)]) (fun _ => ⟨_, rfl⟩)
theorem rhold_good (hr : Ref B w r iv m) (t k a : Int) (hb : rbad m t = false) (h2 : 0 ≤ k) (h3 : k < 3) (h4 : 0 ≤ a) :
    Calls Try.prog 34 #[.pointer (some ⟨r, 0, none⟩), .int .i64 t, .int .i64 k, .int .i64 a] w fun e w' => e = .returned (.tuple #[.slice none 0 0, .int .i64 0]) ∧ RAfter B w r iv m w' := by
  have hc := thread_calls hr t
  rw [hb] at hc
  simp only [rbad, Bool.or_eq_false_iff, decide_eq_false_iff_not] at hb
  obtain ⟨tn, rfl⟩ := Int.eq_ofNat_of_zero_le (show 0 ≤ t by omega)
  obtain ⟨kn, rfl⟩ := Int.eq_ofNat_of_zero_le h2
  obtain ⟨cur, c1, c2⟩ := hr.top
  have hsm := hr.small
  have ht4 : tn < 4 := by omega
  have ht4i : (tn : Int) < 4 := by omega
  have hk3 : kn < 3 := by omega
  have k1 : w.cell? ⟨r, 1, none⟩ = some (.int .i64 2) := by rw [Go.Lib.cell_of_heap c1]; exact c2.k1
  have k3 : w.cell? ⟨r, 3, none⟩ = some (.int .i64 m.now) := by rw [Go.Lib.cell_of_heap c1]; exact c2.k3
  have ki : w.cell? ⟨r, 16 + tn, none⟩ = some (.bool (m.ins tn)) := by rw [Go.Lib.cell_of_heap c1]; exact c2.ins tn ht4
  obtain ⟨u, hu⟩ := c2.hi tn ht4
  have kh : w.cell? ⟨r, 24 + tn, none⟩ = some (.int .i64 u) := by rw [Go.Lib.cell_of_heap c1]; exact hu
  obtain ⟨u2, hu2⟩ := c2.hs (4 + tn * 3 + kn) (by omega) (by omega)
  have ks : w.cell? ⟨r, 4 + tn * 3 + kn, none⟩ = some (.int .i64 u2) := by rw [Go.Lib.cell_of_heap c1]; exact hu2
  have fs := blk_frozen c1 (4 + tn * 3 + kn)
  have fh := blk_frozen c1 (24 + tn)
  have hne1 : ¬ (1 = 4 + tn * 3 + kn) := by omega
  have hne3 : ¬ (3 = 4 + tn * 3 + kn) := by omega
  have hne16 : ¬ (16 + tn = 4 + tn * 3 + kn) := by omega
  have hne24 : ¬ (24 + tn = 4 + tn * 3 + kn) := by omega
  have HR := Aside0.mk hr
  clear hr c1 c2 hu hb hsm hu2
  cases hi : m.ins tn with
  | true =>
    rw [hi] at ki
    clear hi
    go_enter Try.func34, Try.ntmps34
    go_wp2_with (go_at_call 45; refine hc.mono ?_; rintro e w' ⟨rfl, rfl⟩)
    go_region_with (fail)
    all_goals go_wp2
    all_goals go_ret2
    all_goals exact ⟨rfl, RAfter.drew (RAfter.cell (RAfter.cell (RAfter.refl HR.out) (fun cur iv' h => put_hold h _ _ (by omega) (by omega)) rfl rfl) (fun cur iv' h => put_hi h _ _ ht4) rfl rfl)⟩
  | false =>
    rw [hi] at ki
    clear hi
    go_enter Try.func34, Try.ntmps34
    go_wp2_with (go_at_call 45; refine hc.mono ?_; rintro e w' ⟨rfl, rfl⟩)
    go_ret2
    exact ⟨rfl, RAfter.cell (RAfter.refl HR.out) (fun cur iv' h => put_hold h _ _ (by omega) (by omega)) rfl rfl⟩
theorem rbears_calls (hr : Ref B w r iv m) (a : Int) :
    Calls Try.prog 35 #[.pointer (some ⟨r, 0, none⟩), .int .i64 a] w fun e w' => e = .returned (.int .i64 (if a < 1 then 1 else 0)) ∧ w' = w := by
  obtain ⟨cur, c1, c2⟩ := hr.top
  have k0 : w.cell? ⟨r, 0, none⟩ = some (.bool true) := by rw [Go.Lib.cell_of_heap c1]; exact c2.k0
  have k1 : w.cell? ⟨r, 1, none⟩ = some (.int .i64 2) := by rw [Go.Lib.cell_of_heap c1]; exact c2.k1
  clear hr c1 c2
  by_cases h : a < 1
  · rw [if_pos h]
    go_enter Try.func35, Try.ntmps35
    go_wp2
    go_ret
    exact ⟨rfl, rfl⟩
  · rw [if_neg h]
    go_enter Try.func35, Try.ntmps35
    go_wp2
    go_ret
    exact ⟨rfl, rfl⟩
end
end Go.Proofs.Ytcfodmnpmjkpbaa.Ep
