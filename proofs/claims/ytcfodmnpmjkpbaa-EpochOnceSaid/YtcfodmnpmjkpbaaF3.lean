/- Out, Waits, Waiting, Birth, Bear of the reference: plain lemmas; no condition. -/
import Derived.Test.YtcfodmnpmjkpbaaF2
namespace Go.Proofs.Ytcfodmnpmjkpbaa.Ep
open Go.RowKit Go.Proofs.YtcfodmnpmjkpbaaW.PrintWords Go.Proofs.YtcfodmnpmjkpbaaW.PrintLast Go.Proofs.YtcfodmnpmjkpbaaW.PrintMore
set_option linter.unusedVariables false
set_option linter.unusedSimpArgs false
set_option maxHeartbeats 8000000
set_option maxRecDepth 100000
abbrev P3 := Int × Int × Int
def item8 (p : P3) : List Value := [.int .i64 p.1, .int .i64 p.2.1, .int .i64 p.2.2, .int .i64 0, .bool false, .bool false, .bool false, .bool false]
theorem flat8_cons (p : P3) (r : List P3) : flat8 (p :: r) = item8 p ++ flat8 r := rfl
theorem flat8_len (l : List P3) : (flat8 l).length = l.length * 8 := by
  induction l with
  | nil => rfl
  | cons p r ih => rw [flat8_cons, List.length_append, ih]; simp [item8]; omega
theorem flat8_append (a b : List P3) : flat8 (a ++ b) = flat8 a ++ flat8 b := by
  induction a with
  | nil => rfl
  | cons p r ih => rw [List.cons_append, flat8_cons, flat8_cons, ih, List.append_assoc]
theorem flat8_get (l : List P3) : ∀ j i, j < l.length → i < 8 → (flat8 l)[j * 8 + i]? = (item8 (l.getD j (0, 0, 0)))[i]? := by
  induction l with
  | nil => intro j i h; simp at h
  | cons p r ih =>
    intro j i h hi
    rw [flat8_cons]
    cases j with
    | zero => rw [List.getElem?_append_left (by simp [item8]; omega)]; simp
    | succ j =>
      rw [List.getElem?_append_right (by simp [item8]; omega)]
      have e : (j + 1) * 8 + i - (item8 p).length = j * 8 + i := by simp [item8]; omega
      rw [e, ih j i (by simpa using h) hi]
      simp
theorem item_cell {B : Nat} {w : World} {v : Value} {l : List P3} (ho : w.ownsRow B 80 8 v l.length (flat8 l)) (j : Nat) (hj : j < l.length) :
    ∃ b cap cur, v = .slice (some ⟨b, 0, none⟩) l.length cap ∧ B ≤ b ∧ w.heap[b]? = some (.cells cur 80 (0, 0)) ∧ ∀ i, i < 8 → w.cell? ⟨b, j * 8 + i, none⟩ = (item8 (l.getD j (0, 0, 0)))[i]? := by
  obtain ⟨h1, ⟨e, h⟩ | ⟨b, cap, cur, e, h3, h4, h5, h6, h7, h8⟩⟩ := ho
  · omega
  · refine ⟨b, cap, cur, e, h3, h4, fun i hi => ?_⟩
    have hg := flat8_get l j i hj hi
    rw [← h8, List.getElem?_take_of_lt (by omega)] at hg
    rw [Go.Lib.cell_of_heap h4]
    simpa using hg
/-- A mark of an item that is false is written false. -/
theorem item_put {B : Nat} {w : World} {b cap : Nat} {l : List P3} (ho : w.ownsRow B 80 8 (.slice (some ⟨b, 0, none⟩) l.length cap) l.length (flat8 l)) (j t : Nat) (hj : j < l.length) (ht : t < 4) :
    (w.setCell ⟨b, j * 8 + 4 + t, none⟩ (.bool false)).ownsRow B 80 8 (.slice (some ⟨b, 0, none⟩) l.length cap) l.length (flat8 l) := by
  obtain ⟨h1, ⟨e, h⟩ | ⟨b', cap', cur, e, h3, h4, h5, h6, h7, h8⟩⟩ := ho
  · omega
  · injection e with e1 _ e2
    injection e1 with e1
    injection e1 with e1
    subst e1; subst e2
    refine ⟨h1, .inr ⟨b, cap, cur.setIfInBounds (j * 8 + 4 + t) (.bool false), rfl, h3, blk_set h4 _ _, h5, h6, by simpa using h7, ?_⟩⟩
    have hg := flat8_get l j (4 + t) hj (by omega)
    have hi : (item8 (l.getD j (0, 0, 0)))[4 + t]? = some (.bool false) := by
      obtain rfl | rfl | rfl | rfl : t = 0 ∨ t = 1 ∨ t = 2 ∨ t = 3 := by omega
      all_goals rfl
    rw [hi, ← h8, List.getElem?_take_of_lt (by omega)] at hg
    have : cur.setIfInBounds (j * 8 + 4 + t) (.bool false) = cur := by
      apply Array.ext_getElem?
      intro k
      rw [Array.getElem?_setIfInBounds]
      by_cases e : j * 8 + 4 + t = k
      · subst e
        rw [if_pos rfl, if_pos (by omega), ← Array.getElem?_toList]
        rw [show j * 8 + (4 + t) = j * 8 + 4 + t by omega] at hg
        exact hg.symm
      · rw [if_neg e]
    rw [this]
    exact h8
section
variable {B : Nat} {w : World} {r : Nat} {iv : Value} {m : RM}
/-- The same items, only cells written. -/
def RHold (B : Nat) (w : World) (r : Nat) (iv : Value) (m' : RM) (w' : World) : Prop := Ref B w' r iv m' ∧ Kept w w' (rfoot r iv) ∧ Below B w w'
theorem RHold.after {w' : World} {m' : RM} (h : RHold B w r iv m' w') : RAfter B w r iv m' w' := ⟨iv, h.1, h.2.1, h.2.2, fun k hk => .inl hk⟩
theorem RHold.refl (hr : Ref B w r iv m) : RHold B w r iv m w := ⟨hr, Kept.refl _ _, Below.refl _ _⟩
theorem RHold.cell {w' : World} {m' m2 : RM} {i : Nat} {v : Value} (h : RHold B w r iv m' w') (hp : ∀ cur, RefB cur iv m' → RefB (cur.setIfInBounds i v) iv m2) (hn : m2.n = m'.n) (hi : m2.its = m'.its) : RHold B w r iv m2 (w'.setCell ⟨r, i, none⟩ v) := by
  obtain ⟨h1, h2, h3⟩ := h
  obtain ⟨cur, c1, c2⟩ := h1.top
  refine ⟨⟨by rw [hn]; exact h1.small, h1.br, ⟨_, blk_set c1 i v, hp _ c2⟩, ?_⟩, h2.setCell (p := ⟨r, i, none⟩) (.inl (.inl rfl)) v, h3.setCell (p := ⟨r, i, none⟩) h1.br v⟩
  rw [hi]
  refine own_setCell h1.own (p := ⟨r, i, none⟩) ?_ v
  intro e
  obtain ⟨c, hc⟩ := own_tag h1.own r e.symm
  exact ne_of_tag c1 hc (by decide) rfl
theorem RHold.mark {w' : World} {m' : RM} {b cap : Nat} (h : RHold B w r (.slice (some ⟨b, 0, none⟩) m'.its.length cap) m' w') (j t : Nat) (hj : j < m'.its.length) (ht : t < 4) : RHold B w r (.slice (some ⟨b, 0, none⟩) m'.its.length cap) m' (w'.setCell ⟨b, j * 8 + 4 + t, none⟩ (.bool false)) := by
  obtain ⟨h1, h2, h3⟩ := h
  obtain ⟨cur, c1, c2⟩ := h1.top
  obtain ⟨c, hc⟩ := own_tag h1.own b rfl
  have hb := own_base h1.own b rfl
  refine ⟨⟨h1.small, h1.br, ⟨cur, (Below.heap_setCell w' ⟨b, _, none⟩ _ r (ne_of_tag c1 hc (by decide))).trans c1, c2⟩, item_put h1.own j t hj ht⟩, h2.setCell (p := ⟨b, j * 8 + 4 + t, none⟩) (.inl (.inr rfl)) _, h3.setCell (p := ⟨b, j * 8 + 4 + t, none⟩) hb _⟩
def routed (m : RM) (t : Nat) : RM := { m with ins := fun k => if k = t then false else m.ins k }
theorem rout_bad (hr : Ref B w r iv m) (t : Int) (hb : rbad m t = true) :
    Calls Try.prog 33 #[.pointer (some ⟨r, 0, none⟩), .int .i64 t] w fun e w' => e = .returned (.tuple #[.slice none 0 0, .int .i64 1]) ∧ w' = w := by
  have hc := thread_calls hr t
  rw [hb] at hc
  clear hr hb
  go_enter Try.func33, Try.ntmps33
  go_wp2_with (go_at_call 45; refine hc.mono ?_; rintro e w' ⟨rfl, rfl⟩)
  go_ret2
  exact ⟨rfl, rfl⟩
theorem rout_good (hr : Ref B w r iv m) (hl : m.its.length ≤ 100000) (t : Int) (hb : rbad m t = false) :
    Calls Try.prog 33 #[.pointer (some ⟨r, 0, none⟩), .int .i64 t] w fun e w' => e = .returned (.tuple #[.slice none 0 0, .int .i64 0]) ∧ RAfter B w r iv (routed m t.toNat) w' := by
  have hc := thread_calls hr t
  rw [hb] at hc
  simp only [rbad, Bool.or_eq_false_iff, decide_eq_false_iff_not] at hb
  obtain ⟨tn, rfl⟩ := Int.eq_ofNat_of_zero_le (show 0 ≤ t by omega)
  obtain ⟨cur, c1, c2⟩ := hr.top
  have hsm := hr.small
  have ht4 : tn < 4 := by omega
  have ht4i : (tn : Int) < 4 := by omega
  have ki : w.cell? ⟨r, 16 + tn, none⟩ = some (.bool (m.ins tn)) := by rw [Go.Lib.cell_of_heap c1]; exact c2.ins tn ht4
  obtain ⟨u0, hu0⟩ := c2.hs (4 + tn * 3) (by omega) (by omega)
  obtain ⟨u1, hu1⟩ := c2.hs (4 + tn * 3 + 1) (by omega) (by omega)
  obtain ⟨u2, hu2⟩ := c2.hs (4 + tn * 3 + 2) (by omega) (by omega)
  have ks0 : w.cell? ⟨r, 4 + tn * 3, none⟩ = some (.int .i64 u0) := by rw [Go.Lib.cell_of_heap c1]; exact hu0
  have ks1 : w.cell? ⟨r, 4 + tn * 3 + 1, none⟩ = some (.int .i64 u1) := by rw [Go.Lib.cell_of_heap c1]; exact hu1
  have ks2 : w.cell? ⟨r, 4 + tn * 3 + 2, none⟩ = some (.int .i64 u2) := by rw [Go.Lib.cell_of_heap c1]; exact hu2
  have fi := blk_frozen c1 (16 + tn)
  have fs0 := blk_frozen c1 (4 + tn * 3)
  have fs1 := blk_frozen c1 (4 + tn * 3 + 1)
  have fs2 := blk_frozen c1 (4 + tn * 3 + 2)
  have hne0 : ¬ (16 + tn = 4 + tn * 3) := by omega
  have hne1 : ¬ (16 + tn = 4 + tn * 3 + 1) := by omega
  have hne2 : ¬ (16 + tn = 4 + tn * 3 + 2) := by omega
  have hne0' : ¬ (4 + tn * 3 = 16 + tn) := by omega
  have hne1' : ¬ (4 + tn * 3 + 1 = 16 + tn) := by omega
  have hne2' : ¬ (4 + tn * 3 + 2 = 16 + tn) := by omega
  have HR := Aside0.mk hr
  have hown := hr.own
  obtain ⟨A, c, hiv⟩ := own_form hown
  subst hiv
  clear hr c1 c2 hu0 hu1 hu2 hb hsm hown
  go_enter Try.func33, Try.ntmps33
  go_wp2_with (go_at_call 45; refine hc.mono ?_; rintro e w' ⟨rfl, hw⟩; rw [hw]; clear hw)
  go_loopg [6] m.its.length (fun gg v6 wr => ∃ kk : Nat, kk ≤ m.its.length ∧ m.its.length - kk ≤ gg ∧ v6 = .int .i64 kk ∧ Aside0 (RHold B w r (.slice A m.its.length c) (routed m tn) wr))
  case atStart =>
    refine ⟨0, Nat.zero_le _, by omega, rfl, ⟨?_⟩⟩
    refine RHold.cell (m' := routed m tn) (RHold.cell (m' := routed m tn) (RHold.cell (m' := routed m tn) (RHold.cell (m' := m) (RHold.refl HR.out) (fun cur h => ?_) rfl rfl) (fun cur h => put_hold h _ _ (by omega) (by omega)) rfl rfl) (fun cur h => put_hold h _ _ (by omega) (by omega)) rfl rfl) (fun cur h => put_hold h _ _ (by omega) (by omega)) rfl rfl
    refine h.put (16 + tn) _ (by omega) rfl (fun e => by omega) (fun _ => rfl) (by omega) (by omega) (by omega) (fun _ _ => by omega) (fun t ht => ?_) (fun t ht => ?_) (fun _ => by omega)
    · by_cases e : 16 + tn = 16 + t
      · rw [if_pos e]
        have : t = tn := by omega
        simp [routed, this]
      · rw [if_neg e]
        have : ¬ t = tn := by omega
        simp [routed, this]
    · rw [if_neg (by omega)]
      rfl
  case round =>
    clear ki ks0 ks1 ks2 fi fs0 fs1 fs2 hne0 hne1 hne2 hne0' hne1' hne2' hc HR
    obtain ⟨kk, hkk, hgg, rfl, HR⟩ := hrel
    obtain ⟨cur2, c1, c2⟩ := HR.out.1.top
    have k8 : wr.cell? ⟨r, 28, none⟩ = some (.slice A m.its.length c) := by rw [Go.Lib.cell_of_heap c1]; exact c2.its
    have k1 : wr.cell? ⟨r, 1, none⟩ = some (.int .i64 2) := by rw [Go.Lib.cell_of_heap c1]; exact c2.k1
    clear c1 c2
    by_cases hlt : kk < m.its.length
    · obtain ⟨b, cap, cur3, e, hb1, hb2, hcell⟩ := item_cell (l := m.its) HR.out.1.own kk hlt
      injection e with e1 _ e2
      subst e1; subst e2
      have hcell2 := hcell (4 + tn) (by omega)
      have hi : (item8 (m.its.getD kk (0, 0, 0)))[4 + tn]? = some (.bool false) := by
        obtain rfl | rfl | rfl | rfl : tn = 0 ∨ tn = 1 ∨ tn = 2 ∨ tn = 3 := by omega
        all_goals rfl
      rw [hi, show kk * 8 + (4 + tn) = kk * 8 + 4 + tn by omega] at hcell2
      have hfr := blk_frozen hb2 (kk * 8 + 4 + tn)
      clear hcell hi hb2
      go_wp2
      go_roundg (m.its.length - (kk + 1))
      case measure => omega
      case rel => exact ⟨kk + 1, by omega, by omega, by go_num, ⟨RHold.mark (m' := routed m tn) HR.out kk tn hlt ht4⟩⟩
    · go_wp2
      go_ret2
      exact ⟨rfl, HR.out.after⟩
/-- An address waits at the reference. -/
def rhas (m : RM) (x : Int) : Bool := (m.its.map (·.1)).contains x
theorem rwaits_calls (hr : Ref B w r iv m) (hl : m.its.length ≤ 1000000) (x : Int) :
    Calls Try.prog 48 #[.pointer (some ⟨r, 0, none⟩), .int .i64 x] w fun e w' => e = .returned (.bool (rhas m x)) ∧ w' = w := by
  obtain ⟨cur2, c1, c2⟩ := hr.top
  obtain ⟨A, c, hiv⟩ := own_form hr.own
  subst hiv
  have k8 : w.cell? ⟨r, 28, none⟩ = some (.slice A m.its.length c) := by rw [Go.Lib.cell_of_heap c1]; exact c2.its
  have HR := Aside0.mk hr
  clear hr c1 c2
  go_enter Try.func48, Try.ntmps48
  go_wp2
  go_loopg [5] m.its.length (fun gg s5 wr => ∃ kk : Nat, kk ≤ m.its.length ∧ m.its.length - kk ≤ gg ∧ s5 = .int .i64 kk ∧ w = wr ∧ Aside0 (∀ j : Nat, j < kk → ((m.its.getD j (0, 0, 0)).1 == x) = false))
  case atStart => exact ⟨0, Nat.zero_le _, by omega, rfl, rfl, ⟨fun j hj => absurd hj (Nat.not_lt_zero _)⟩⟩
  case round =>
    obtain ⟨kk, hkk, hg, rfl, hw, B⟩ := hrel
    subst hw
    by_cases hlt : kk < m.its.length
    · obtain ⟨b, cap, cur3, e, hb1, hb2, hcell⟩ := item_cell (l := m.its) HR.out.own kk hlt
      injection e with e1 _ e2
      subst e1; subst e2
      have hc := hcell 0 (by omega)
      have hi : (item8 (m.its.getD kk (0, 0, 0)))[0]? = some (.int .i64 (m.its.getD kk (0, 0, 0)).1) := rfl
      rw [hi, Nat.add_zero] at hc
      clear hcell hi hb2
      obtain ⟨y, hy⟩ : ∃ y, y = (m.its.getD kk (0, 0, 0)).1 := ⟨_, rfl⟩
      have HY := Aside0.mk hy
      rw [← hy] at hc
      clear hy
      cases hq : (y == x) with
      | true =>
        go_wp2
        go_ret
        have : rhas m x = true := by
          unfold rhas
          rw [List.contains_iff_exists_mem_beq]
          have e := eq_of_beq hq
          refine ⟨y, ?_, by simp [e]⟩
          rw [HY.out]
          refine List.mem_map.2 ⟨m.its[kk], List.getElem_mem hlt, ?_⟩
          simp [hlt]
        rw [this]
        exact ⟨rfl, rfl⟩
      | false =>
        go_wp2
        go_roundg (m.its.length - (kk + 1))
        case measure => omega
        case rel =>
          refine ⟨kk + 1, by omega, by omega, by go_num, rfl, ⟨fun j hj => ?_⟩⟩
          by_cases e : j = kk
          · subst e
            rw [← HY.out]; exact hq
          · exact B.out j (by omega)
    · have hkl : kk = m.its.length := by omega
      subst hkl
      go_wp2
      go_ret
      have : rhas m x = false := by
        unfold rhas
        rw [Bool.eq_false_iff]
        intro h
        obtain ⟨y, hy, hxy⟩ := List.contains_iff_exists_mem_beq.1 h
        obtain ⟨j, hj, rfl⟩ := List.mem_iff_getElem.1 hy
        have hj2 : j < m.its.length := by simpa using hj
        have := B.out j hj2
        have e := eq_of_beq hxy
        simp [hj2] at this e
        exact this e.symm
      rw [this]
      exact ⟨rfl, rfl⟩
theorem rbirth_calls (hr : Ref B w r iv m) (x : Int) :
    Calls Try.prog 49 #[.pointer (some ⟨r, 0, none⟩), .int .i64 x] w fun e w' => e = .returned (.int .i64 0) ∧ w' = w := by
  obtain ⟨cur2, c1, c2⟩ := hr.top
  have k9 : w.cell? ⟨r, 29, none⟩ = some (.slice none 0 0) := by rw [Go.Lib.cell_of_heap c1]; exact c2.born
  clear hr c1 c2
  go_enter Try.func49, Try.ntmps49
  go_wp2
  go_loopg [5] 0 (fun gg s5 wr => s5 = .int .i64 0 ∧ w = wr)
  case atStart => exact ⟨rfl, rfl⟩
  case round =>
    obtain ⟨rfl, hw⟩ := hrel
    subst hw
    go_wp2
    go_ret
    exact ⟨rfl, rfl⟩
theorem put_born {cur : Array Value} {m : RM} {iv' : Value} (h : RefB cur iv' m) : RefB (cur.setIfInBounds 29 (.slice none 0 0)) iv' m := by
  have : cur.setIfInBounds 29 (.slice none 0 0) = cur := by
    apply Array.ext_getElem?
    intro k
    rw [Array.getElem?_setIfInBounds]
    by_cases e : 29 = k
    · subst e
      rw [if_pos rfl, if_pos (by rw [h.size]; decide), h.born]
    · rw [if_neg e]
  rw [this]; exact h
theorem rbear_calls (hr : Ref B w r iv m) (x : Int) :
    Calls Try.prog 47 #[.pointer (some ⟨r, 0, none⟩), .int .i64 x, .int .i64 0] w fun e w' => e = .returned (.tuple #[]) ∧ RHold B w r iv m w' := by
  obtain ⟨cur2, c1, c2⟩ := hr.top
  have k9 : w.cell? ⟨r, 29, none⟩ = some (.slice none 0 0) := by rw [Go.Lib.cell_of_heap c1]; exact c2.born
  have f9 := blk_frozen c1 29
  have HR := Aside0.mk hr
  clear hr c1 c2
  go_enter Try.func47, Try.ntmps47
  go_wp2
  go_loopg [6, 7] 0 (fun gg s6 s7 wr => s6 = .slice none 0 0 ∧ s7 = .int .i64 0 ∧ w = wr)
  case atStart => exact ⟨rfl, rfl, rfl⟩
  case round =>
    obtain ⟨rfl, rfl, hw⟩ := hrel
    subst hw
    go_wp2
    go_end0
    exact ⟨rfl, RHold.cell (RHold.refl HR.out) (fun cur h => put_born h) rfl rfl⟩
theorem rwaiting_calls (hr : Ref B w r iv m) (hl : m.its.length ≤ 1000000) :
    Calls Try.prog 20 #[.pointer (some ⟨r, 0, none⟩)] w fun e w' => ∃ v, e = .returned v ∧ Kd.R (Kd.int .i64) 3 w' w.heap.size (fun _ => True) v (m.its.map (·.1)) ∧ Below w.heap.size w w' := by
  obtain ⟨cur2, c1, c2⟩ := hr.top
  obtain ⟨A, c, hiv⟩ := own_form hr.own
  subst hiv
  have k8 : w.cell? ⟨r, 28, none⟩ = some (.slice A m.its.length c) := by rw [Go.Lib.cell_of_heap c1]; exact c2.its
  have hrl := hr.lt
  have HR := Aside0.mk hr
  clear hr c1 c2
  have HB := Aside0.mk (Below.refl w.heap.size w)
  go_enter Try.func20, Try.ntmps20
  go_wp2
  go_loopg [3, 4] m.its.length (fun gg v3 v4 wr => ∃ kk : Nat, kk ≤ m.its.length ∧ m.its.length - kk ≤ gg ∧ v4 = .int .i64 kk ∧ Aside0 (Kd.R (Kd.int .i64) 3 wr w.heap.size (fun _ => True) v3 ((m.its.take kk).map (·.1))) ∧ Aside0 (Below w.heap.size w wr))
  case atStart => exact ⟨0, Nat.zero_le _, by omega, rfl, ⟨by simpa using Kd.R_nil _ _ _ _ _⟩, HB⟩
  case round =>
    clear HB
    obtain ⟨kk, hkk, hgg, rfl, HO, HB⟩ := hrel
    replace k8 := (HB.out.cell (p := ⟨r, 28, none⟩) hrl).trans k8
    by_cases hlt : kk < m.its.length
    · obtain ⟨b, cap, cur3, e, hb1, hb2, hcell⟩ := item_cell (l := m.its) HR.out.own kk hlt
      injection e with e1 _ e2
      subst e1; subst e2
      have hx := hcell 0 (by omega)
      have hi : (item8 (m.its.getD kk (0, 0, 0)))[0]? = some (.int .i64 (m.its.getD kk (0, 0, 0)).1) := rfl
      rw [hi, Nat.add_zero] at hx
      replace hx := (HB.out.cell (p := ⟨b, kk * 8, none⟩) (blk_lt hb2)).trans hx
      clear hcell hi hb2
      have hsn : (m.its.take (kk + 1)).map (·.1) = (m.its.take kk).map (·.1) ++ [(m.its.getD kk (0, 0, 0)).1] := by
        rw [List.take_succ_eq_append_getElem hlt, List.map_append]; congr 1; simp [hlt]
      have hLl : ((m.its.take kk).map (·.1)).length ≤ 1000000 := by simp; omega
      generalize (m.its.getD kk (0, 0, 0)).1 = x at hx hsn
      generalize (m.its.take kk).map (·.1) = L at HO hsn hLl
      have hlim : (L.length + 1) * 8 ≤ 140737488355328 := by omega
      have HSN := Aside0.mk hsn
      clear hsn hLl
      go_wp2_with ((with_reducible refine gate_builtin (b := .append) (xs := #[.tmp 14, .tmp 23]) rfl ?_); at_builtin; refine Kd.R_append (Kd.int .i64) (w0 := w) w.heap.size rfl (.tmp 14) (.tmp 23) 41 3 (.int .i64 0) 8 rfl Try.underlying41 info3 rfl (by decide) (by omega) u3 L x [.int .i64 x] (fun _ => True) (fun _ => False) rfl rfl ?aP (fun _ hk => hk.elim) ?aF ?aO ?aB ?aS ?aL ?_; (case aP => exact rfl); (case aB => exact (by repeat (first | (with_reducible first | exact HB.out | apply below_alloc | apply pw_below_drewN | apply below_drew1) | exact HB.out))); (case aF => exact (fun _ _ => trivial)); (case aO => exact (by (with_reducible repeat (first | apply Kd.R_alloc | apply Kd.R_drewN | apply Kd.R_drew)); exact HO.out)); (case aS => exact (below_size (by repeat (first | (with_reducible first | exact HB.out | apply below_alloc | apply pw_below_drewN | apply below_drew1) | exact HB.out)))); (case aL => omega); intro v1 wn ho hb hg hat; have n8_ := Aside0.mk hb; have n9_ := Aside0.mk ho; clear HB; clear HO; have HB := n8_; have HN := n9_; clear n8_ n9_; clear ho hb hg hat)
      go_roundg (m.its.length - (kk + 1))
      case measure => omega
      case rel => exact ⟨kk + 1, by omega, by omega, by go_num, by rw [HSN.out]; exact HN, HB⟩
    · go_wp2
      go_ret
      have hkl : kk = m.its.length := by omega
      subst hkl
      exact ⟨_, rfl, by simpa using HO.out, HB.out⟩
end
end Go.Proofs.Ytcfodmnpmjkpbaa.Ep
