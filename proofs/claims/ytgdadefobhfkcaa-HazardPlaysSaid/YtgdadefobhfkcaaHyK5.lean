/- The holds of all threads behind a deed, walked: plain lemmas; no condition. -/
import Derived.Test.YtgdadefobhfkcaaHyK4
namespace Go.Proofs.Ytgdadefobhfkcaa.Hy
open Go.RowKit Go.Proofs.YtgdadefobhfkcaaW.PrintWords Go.Proofs.YtgdadefobhfkcaaW.PrintLast Go.Proofs.YtgdadefobhfkcaaW.PrintMore
set_option linter.unusedVariables false
set_option linter.unusedSimpArgs false
set_option maxHeartbeats 8000000
set_option maxRecDepth 100000
/-- A list of holds that the call hands back. -/
def HoldsBack (w : World) (base n : Nat) (hs : List Int) (e : Ending) (w' : World) : Prop := ∃ v ps, e = .returned v ∧ ps.length = n ∧ HL w' base v ps hs ∧ Below w.heap.size w w'
theorem holds_keep {w : World} {base : Nat} {A : Option Addr} {c : Nat} {ps : List (Nat × Nat)} {hs : List Int} (h : HL w base (.slice A ps.length c) ps hs) (d t k a er : Int) (hx : er ≠ 0 ∨ t < 0 ∨ (ps.length : Int) ≤ t) :
    Calls Try.prog 12 #[.slice A ps.length c, .int .i64 ps.length, .agg #[.int .i64 d, .int .i64 t, .int .i64 k, .int .i64 a], .int .i64 er] w (HoldsBack w base ps.length hs) := by
  have H := Aside0.mk h
  clear h
  by_cases he : er = 0
  · subst he
    by_cases ht : t < 0
    · go_enter Try.func12, Try.ntmps12
      go_wp2
      go_ret
      exact ⟨_, ps, rfl, rfl, H.out.grow ((Below.refl _ _).alloc (Nat.le_refl _) _), (Below.refl _ _).alloc (Nat.le_refl _) _⟩
    · have ht2 : (ps.length : Int) ≤ t := by omega
      go_enter Try.func12, Try.ntmps12
      go_wp2
      go_ret
      exact ⟨_, ps, rfl, rfl, H.out.grow ((Below.refl _ _).alloc (Nat.le_refl _) _), (Below.refl _ _).alloc (Nat.le_refl _) _⟩
  · have hb : (er != 0) = true := by simpa using he
    clear hx
    go_enter Try.func12, Try.ntmps12
    go_wp2
    go_ret
    exact ⟨_, ps, rfl, rfl, H.out.grow ((Below.refl _ _).alloc (Nat.le_refl _) _), (Below.refl _ _).alloc (Nat.le_refl _) _⟩
def box (d t k a : Int) : Obj := .cells #[.int .i64 d, .int .i64 t, .int .i64 k, .int .i64 a] 33 (0, 0)
theorem box_cells {w w2 : World} (d t k a : Int) (hb : Below (w.alloc (box d t k a)).heap.size (w.alloc (box d t k a)) w2) : w2.cell? ⟨w.heap.size, 0, none⟩ = some (.int .i64 d) ∧ w2.cell? ⟨w.heap.size, 1, none⟩ = some (.int .i64 t) ∧ w2.cell? ⟨w.heap.size, 2, none⟩ = some (.int .i64 k) ∧ w2.cell? ⟨w.heap.size, 3, none⟩ = some (.int .i64 a) := by
  have hlt : w.heap.size < (w.alloc (box d t k a)).heap.size := by rw [alloc_size]; omega
  have h := (hb.block w.heap.size hlt).trans (heap_alloc_new w _)
  unfold box at h
  refine ⟨?_, ?_, ?_, ?_⟩ <;> (rw [Go.Lib.cell_of_heap h]; rfl)
theorem back_copy {w w2 : World} {base n : Nat} {o : Obj} {v : Value} {qs : List (Nat × Nat)} {hs : List Int} (hB : base ≤ w.heap.size) (hq : qs.length = n) (h : HL w2 (w.alloc o).heap.size v qs hs) (hb : Below (w.alloc o).heap.size (w.alloc o) w2) : HoldsBack w base n hs (.returned v) w2 := by
  have hb1 := (Below.refl w.heap.size w).alloc (Nat.le_refl _) o
  exact ⟨_, qs, rfl, hq, h.lower (Nat.le_trans hB hb1.size), hb1.trans (hb.mono hb1.size)⟩
theorem holds_copy {w : World} {base : Nat} {A : Option Addr} {c : Nat} {ps : List (Nat × Nat)} {hs : List Int} (h : HL w base (.slice A ps.length c) ps hs) (hn : ps.length ≤ 4) (hB : base ≤ w.heap.size) (d k a : Int) (t : Nat) (ht : t < ps.length)
    (hd : (d == 1) = false) (h2 : (d == 2) = false ∨ (d = 2 ∧ (k < 0 ∨ 3 ≤ k))) :
    Calls Try.prog 12 #[.slice A ps.length c, .int .i64 ps.length, .agg #[.int .i64 d, .int .i64 t, .int .i64 k, .int .i64 a], .int .i64 0] w (HoldsBack w base ps.length hs) := by
  have HC := Aside0.mk (fun o => copyAll_calls (h.grow ((Below.refl w.heap.size w).alloc (Nat.le_refl _) o)) hn)
  have hcases : (d == 2) = false ∨ (d = 2 ∧ k < 0) ∨ (d = 2 ∧ 0 ≤ k ∧ 3 ≤ k) := by
    rcases h2 with h2 | ⟨h2, h3⟩
    · exact .inl h2
    · right; omega
  clear h h2
  rcases hcases with h2 | ⟨rfl, h2⟩ | ⟨rfl, h2, h3⟩
  all_goals
    go_enter Try.func12, Try.ntmps12
    go_wp2_with (go_at_call 30; refine (HC.out _).mono ?_; rintro e w2 ⟨v2, qs, rfl, hq, hl, hb⟩; obtain ⟨A2, c2, rfl⟩ := hl.slice; obtain ⟨e0, e1, e2, e3⟩ := box_cells _ _ _ _ hb; have HQ := Aside0.mk hq; rw [hq] at hl; have HL2 := Aside0.mk hl; have HB2 := Aside0.mk hb; rw [hq]; clear hl hb hq)
    go_ret
    exact back_copy hB HQ.out HL2.out HB2.out
theorem make3 (W : World) : (Instr.makeSlice 29 (.int .i64 3) (.int .i64 3)).run Try.prog W = .ok (.slice (some ⟨W.heap.size, 0, none⟩) 3 3) (W.alloc (.cells #[.int .i64 0, .int .i64 0, .int .i64 0] 3 (0, 0))) := by
  obtain ⟨i0, hi, hz⟩ := Option.map_eq_some_iff.1 info3
  simp only [Prod.mk.injEq] at hz
  obtain ⟨hz0, hz1, hz2⟩ := hz
  have hr := run_make (P := Try.prog) W 29 3 i0 _ Try.underlying29 hi hz0 .i64 .i64 3 3 (by omega) (by omega) (by rw [hz2]; omega) (by omega)
  rw [hz1] at hr
  have e : madeCells (Value.cells (.int .i64 0)) (3 * 1) = #[.int .i64 0, .int .i64 0, .int .i64 0] := by
    apply Array.ext
    · simp [size_madeCells]
    · intro j g1 g2
      have hm : j = 0 ∨ j = 1 ∨ j = 2 := by simp at g2; omega
      rcases hm with rfl | rfl | rfl <;> simp [madeCells, Value.cells]
  simp only [show Int.toNat 3 = 3 from rfl, e] at hr
  exact hr
theorem holds_out {w : World} {base : Nat} {A : Option Addr} {c : Nat} {ps : List (Nat × Nat)} {hs : List Int} (h : HL w base (.slice A ps.length c) ps hs) (hn : ps.length ≤ 4) (hB : base ≤ w.heap.size) (k a : Int) (t : Nat) (ht : t < ps.length) (hl : t * 3 + 2 < hs.length) :
    Calls Try.prog 12 #[.slice A ps.length c, .int .i64 ps.length, .agg #[.int .i64 1, .int .i64 t, .int .i64 k, .int .i64 a], .int .i64 0] w (HoldsBack w base ps.length (zeroed hs t)) := by
  have HC := Aside0.mk (fun o => copyAll_calls (h.grow ((Below.refl w.heap.size w).alloc (Nat.le_refl _) o)) hn)
  have hmk := make3
  clear h
  go_enter Try.func12, Try.ntmps12
  go_wp2_with (go_at_call 30; refine (HC.out _).mono ?_; rintro e w2 ⟨v2, qs, rfl, hq, hl, hb⟩; obtain ⟨A2, c2, rfl⟩ := hl.slice; obtain ⟨g, rfl, hbg, hgl, hc, hf⟩ := hl.cell t (by omega); obtain ⟨e0, e1, e2, e3⟩ := box_cells 1 t k a hb; have HQ := Aside0.mk (id hq); rw [hq] at hl; have HL2 := Aside0.mk hl; have HB2 := Aside0.mk hb; have hsz := hb.size; rw [alloc_size] at hsz; rw [hq]; clear hq; have e0b : ∀ v o, ((w2.setCell ⟨g, t, none⟩ v).alloc o).drew.cell? ⟨w.heap.size, 0, none⟩ = some (.int .i64 1) := (fun v o => ((below_drew ((Below.setCell (Below.refl (w.heap.size + 1) w2) (p := ⟨g, t, none⟩) (by rw [alloc_size] at hbg; exact hbg) v).alloc (by show w.heap.size + 1 ≤ (w2.setCell _ _).heap.size; rw [World.size_setCell]; omega) o)).cell (by show w.heap.size < w.heap.size + 1; omega)).trans e0); have e1a : ∀ o, (w2.alloc o).cell? ⟨w.heap.size, 1, none⟩ = some (.int .i64 t) := fun o => ((((Below.refl w2.heap.size w2).alloc (Nat.le_refl _) o).cell (World.block_lt_of_cell? w2 _ e1)).trans e1); generalize qs.getD t (0, 0) = q at hc; clear hl hb)
  go_region
  go_wp2
  go_ret
  have hz := (alloc_size w (box 1 t k a))
  have hb1 := (Below.refl w.heap.size w).alloc (Nat.le_refl _) (box 1 t k a)
  have hL := HL2.out.lower (Nat.le_trans hB hb1.size)
  have hgl2 : g < w2.heap.size := hgl
  have hq := HQ.out
  rw [← hq] at hL ht ⊢
  have hB2 : Below w.heap.size w w2 := hb1.trans (HB2.out.mono hb1.size)
  have hnew : Kd.R (Kd.int .i64) 3 (w2.alloc (.cells #[.int .i64 0, .int .i64 0, .int .i64 0] 3 (0, 0))) base (fun _ => True) (encP (w2.heap.size, 3)) [0, 0, 0] :=
    Kd.R_of_own (xs := ([0, 0, 0] : List Int)) ⟨by decide, .inr ⟨w2.heap.size, 3, #[.int .i64 0, .int .i64 0, .int .i64 0], rfl, Nat.le_trans hB hB2.size, heap_alloc_new w2 _, Nat.le_refl _, by decide, rfl, rfl⟩⟩ (fun _ _ => trivial)
  have hput := (hL.grow ((Below.refl _ w2).alloc (Nat.le_refl _) (.cells #[.int .i64 0, .int .i64 0, .int .i64 0] 3 (0, 0)))).putRow t w2.heap.size 3 ht hl hnew (hL.fresh _ (Nat.le_refl _))
  rw [World.setCell_alloc_past _ _ _ _ hgl2] at hput
  have hbelow : Below w.heap.size w (((w2.setCell ⟨g, t, none⟩ (encP (w2.heap.size, 3))).alloc (.cells #[.int .i64 0, .int .i64 0, .int .i64 0] 3 (0, 0))).drew) :=
    below_drew ((hB2.setCell (p := ⟨g, t, none⟩) (by rw [alloc_size] at hbg; show w.heap.size ≤ g; omega) _).alloc (by rw [World.size_setCell]; exact hB2.size) _)
  rw [List.length_set] at hput
  exact ⟨.slice (some ⟨g, 0, none⟩) qs.length c2, qs.set t (w2.heap.size, 3), rfl, by rw [List.length_set], hput.grow (below_drew (Below.refl _ _)), hbelow⟩
theorem holds_put {w : World} {base : Nat} {A : Option Addr} {c : Nat} {ps : List (Nat × Nat)} {hs : List Int} (h : HL w base (.slice A ps.length c) ps hs) (hn : ps.length ≤ 4) (hB : base ≤ w.heap.size) (a : Int) (t k : Nat) (ht : t < ps.length) (hk : k < 3) (hl : t * 3 + k < hs.length) :
    Calls Try.prog 12 #[.slice A ps.length c, .int .i64 ps.length, .agg #[.int .i64 2, .int .i64 t, .int .i64 k, .int .i64 a], .int .i64 0] w (HoldsBack w base ps.length (hs.set (t * 3 + k) a)) := by
  have HC := Aside0.mk (fun o => copyAll_calls (h.grow ((Below.refl w.heap.size w).alloc (Nat.le_refl _) o)) hn)
  clear h
  go_enter Try.func12, Try.ntmps12
  go_wp2_with (go_at_call 30; refine (HC.out _).mono ?_; rintro e w2 ⟨v2, qs, rfl, hq, hl, hb⟩; obtain ⟨A2, c2, rfl⟩ := hl.slice; have htq : t < qs.length := (by omega); obtain ⟨g, rfl, hbg, hgl, hc, hf⟩ := hl.cell t htq; obtain ⟨hc2, hf2⟩ := hl.cellRow t k htq hk; obtain ⟨e0, e1, e2, e3⟩ := box_cells 2 t k a hb; have HQ := Aside0.mk (id hq); rw [hq] at hl; have HL2 := Aside0.mk hl; have HB2 := Aside0.mk hb; have hsz := hb.size; rw [alloc_size] at hsz; have hpg := hl.row_lt t htq; obtain ⟨q, hqe⟩ : ∃ q, q = qs.getD t (0, 0) := ⟨_, rfl⟩; rw [← hqe] at hc hc2 hf2 hpg; have HQE := Aside0.mk hqe; obtain ⟨q1, q2⟩ := q; simp only [encP] at hc hc2 hf2 hpg; rw [hq]; clear hl hb hqe hq htq)
  go_region
  go_wp2
  go_ret
  have hb1 := (Below.refl w.heap.size w).alloc (Nat.le_refl _) (box 2 t k a)
  have hL := HL2.out.lower (Nat.le_trans hB hb1.size)
  have hq := HQ.out
  have hB2 : Below w.heap.size w w2 := hb1.trans (HB2.out.mono hb1.size)
  have hput := hL.putCell t k (by omega) hk hl a
  rw [← HQE.out] at hput
  exact ⟨_, _, rfl, hq, hput.grow (below_drew (Below.refl _ _)), below_drew (hB2.setCell (p := ⟨q1, k, none⟩) (by have := hpg.1; rw [alloc_size] at this; show w.heap.size ≤ q1; omega) _)⟩
end Go.Proofs.Ytgdadefobhfkcaa.Hy
