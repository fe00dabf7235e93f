/- The reference's manager in the heap, and its small functions: plain lemmas; no condition. -/
import Derived.Test.YtgdadefobhfkcaaHyK
namespace Go.Proofs.Ytgdadefobhfkcaa.Hy
open Go.RowKit Go.Proofs.YtgdadefobhfkcaaW.PrintWords Go.Proofs.YtgdadefobhfkcaaW.PrintLast Go.Proofs.YtgdadefobhfkcaaW.PrintMore
set_option linter.unusedVariables false
set_option linter.unusedSimpArgs false
set_option maxHeartbeats 8000000
set_option maxRecDepth 100000
/-- An item: its cells are address and thread. -/
def kdI : Kd (Int × Int) := Kd.iso (Kd.pair (Kd.int .i64) (Kd.int .i64)) (fun p => (p.2, p.1))
structure Ref (B : Nat) (w : World) (g : Nat) (hv iv : Value) (ps : List (Nat × Nat)) (m : HM) : Prop where
  len : m.hs.length = m.n * 3
  small : m.n ≤ 4
  bg : B ≤ g
  top : w.heap[g]? = some (.cells #[.int .i64 m.n, hv, iv] 64 (0, 0))
  hl : HL w B hv ps m.hs
  pl : ps.length = m.n
  it : kdI.R 74 w B (fun _ => True) iv m.ws
def rfoot (g : Nat) (hv iv : Value) (ps : List (Nat × Nat)) (k : Nat) : Prop := k = g ∨ hv.ownBlock = some k ∨ iv.ownBlock = some k ∨ k ∈ ps.map (·.1)
theorem mem_rows {ps : List (Nat × Nat)} {k : Nat} (h : k ∈ ps.map (·.1)) : ∃ t, t < ps.length ∧ (ps.getD t (0, 0)).1 = k := by
  obtain ⟨p, hp, rfl⟩ := List.mem_map.1 h
  obtain ⟨t, ht, e⟩ := List.getElem_of_mem hp
  exact ⟨t, ht, by rw [getD_pair _ _ ht, e]⟩
theorem rows_mem {ps : List (Nat × Nat)} (t : Nat) (ht : t < ps.length) : (ps.getD t (0, 0)).1 ∈ ps.map (·.1) := by
  rw [getD_pair _ _ ht]
  exact List.mem_map.2 ⟨_, List.getElem_mem _, rfl⟩
theorem HL.move {w w' : World} {base : Nat} {v : Value} {ps : List (Nat × Nat)} {hs : List Int} (h : HL w base v ps hs) (hk : ∀ k, v.ownBlock = some k ∨ k ∈ ps.map (·.1) → w'.heap[k]? = w.heap[k]?) : HL w' base v ps hs :=
  ⟨Kd.R_mono (Kd.R_move (Kd.R_tight rfl h.top) (fun k e => hk k (.inl e.symm))) (fun _ _ => trivial), h.nd, fun t ht => Kd.R_mono (Kd.R_move (Kd.R_tight rfl (h.row t ht)) (fun k e => hk k (.inr (by
    have : k = (ps.getD t (0, 0)).1 := by simpa [encP, Value.ownBlock] using e
    rw [this]; exact rows_mem t ht)))) (fun _ _ => trivial)⟩
section
variable {B : Nat} {w w' : World} {g : Nat} {hv iv : Value} {ps : List (Nat × Nat)} {m : HM}
theorem ref_keep (h : Ref B w g hv iv ps m) (hk : ∀ k, rfoot g hv iv ps k → w'.heap[k]? = w.heap[k]?) : Ref B w' g hv iv ps m :=
  ⟨h.len, h.small, h.bg, (hk g (.inl rfl)).trans h.top, h.hl.move (fun k hf => hk k (hf.elim (fun e => .inr (.inl e)) (fun e => .inr (.inr (.inr e))))), h.pl,
    Kd.R_mono (Kd.R_move (Kd.R_tight rfl h.it) (fun k e => hk k (.inr (.inr (.inl e.symm))))) (fun _ _ => trivial)⟩
theorem Ref.foot_lt (h : Ref B w g hv iv ps m) (k : Nat) (hf : rfoot g hv iv ps k) : B ≤ k ∧ k < w.heap.size := by
  rcases hf with rfl | hf | hf | hf
  · exact ⟨h.bg, blk_lt h.top⟩
  · exact ⟨Kd.R_base h.hl.top k hf, Kd.R_lt h.hl.top k hf⟩
  · exact ⟨Kd.R_base h.it k hf, Kd.R_lt h.it k hf⟩
  · obtain ⟨t, ht, rfl⟩ := mem_rows hf
    exact h.hl.row_lt t ht
theorem Ref.grow (h : Ref B w g hv iv ps m) (hb : Below w.heap.size w w') : Ref B w' g hv iv ps m := ref_keep h (fun k hf => hb.block k (h.foot_lt k hf).2)
theorem Ref.c0 (h : Ref B w g hv iv ps m) : w.cell? ⟨g, 0, none⟩ = some (.int .i64 m.n) := by rw [Go.Lib.cell_of_heap h.top]; rfl
theorem Ref.c1 (h : Ref B w g hv iv ps m) : w.cell? ⟨g, 1, none⟩ = some hv := by rw [Go.Lib.cell_of_heap h.top]; rfl
theorem Ref.c2 (h : Ref B w g hv iv ps m) : w.cell? ⟨g, 2, none⟩ = some iv := by rw [Go.Lib.cell_of_heap h.top]; rfl
/-- What a deed leaves of the reference's manager. -/
def AfterR (B : Nat) (w : World) (g : Nat) (hv iv : Value) (ps : List (Nat × Nat)) (m' : HM) (w' : World) : Prop :=
  ∃ hv' iv' ps', Ref B w' g hv' iv' ps' m' ∧ Kept w w' (rfoot g hv iv ps) ∧ Below B w w' ∧ ∀ k, rfoot g hv' iv' ps' k → rfoot g hv iv ps k ∨ w.heap.size ≤ k
def ToldR (B : Nat) (w : World) (g : Nat) (hv iv : Value) (ps : List (Nat × Nat)) (r : HM × List Int × Int) (e : Ending) (w' : World) : Prop :=
  ∃ v, e = .returned (.tuple #[v, .int .i64 r.2.2]) ∧ Kd.R (Kd.int .i64) 3 w' w.heap.size (fun _ => True) v r.2.1 ∧ AfterR B w g hv iv ps r.1 w'
theorem AfterR.grow (h : Ref B w g hv iv ps m) (hB : B ≤ w.heap.size) (hb : Below w.heap.size w w') : AfterR B w g hv iv ps m w' :=
  ⟨hv, iv, ps, h.grow hb, Kept.of_below hb _, hb.mono hB, fun k hk => .inl hk⟩
theorem toldR_same (h : Ref B w g hv iv ps m) (hB : B ≤ w.heap.size) (er : Int) : ToldR B w g hv iv ps (m, [], er) (.returned (.tuple #[.slice none 0 0, .int .i64 er])) w :=
  ⟨_, rfl, Kd.R_nil _ _ _ _ _, AfterR.grow h hB (Below.refl _ _)⟩
theorem isThread_calls (h : Ref B w g hv iv ps m) (t : Int) : Calls Try.prog 45 #[.pointer (some ⟨g, 0, none⟩), .int .i64 t] w fun e w' => e = .returned (.bool (!(bad m t))) ∧ w' = w := by
  have c0 := h.c0
  obtain ⟨n, hs, ws⟩ := m
  simp only at c0
  clear h
  have e : (!(bad ⟨n, hs, ws⟩ t)) = (decide (0 ≤ t) && decide (t < n)) := by
    unfold bad
    by_cases h1 : t < 0 <;> by_cases h2 : (n : Int) ≤ t <;> simp [h1, h2] <;> omega
  rw [e]
  by_cases h1 : 0 ≤ t
  · have e2 : (decide (0 ≤ t) && decide (t < n)) = decide (t < n) := by simp [h1]
    rw [e2]
    go_enter Try.func45, Try.ntmps45
    go_wp2
    go_ret
    exact ⟨rfl, rfl⟩
  · have e2 : (decide (0 ≤ t) && decide (t < n)) = false := by simp [h1]
    rw [e2]
    go_enter Try.func45, Try.ntmps45
    go_wp2
    go_ret
    exact ⟨rfl, rfl⟩
theorem rin_calls (h : Ref B w g hv iv ps m) (hB : B ≤ w.heap.size) (t : Int) : Calls Try.prog 31 #[.pointer (some ⟨g, 0, none⟩), .int .i64 t] w (ToldR B w g hv iv ps (inD m t)) := by
  have HT := Aside0.mk (isThread_calls h t)
  have H := Aside0.mk (fun er => toldR_same h hB er)
  unfold inD
  generalize bad m t = b at *
  clear h
  cases b
  all_goals
    go_enter Try.func31, Try.ntmps31
    go_wp2_with (go_at_call 45; refine (HT.out).mono ?_; rintro e w' ⟨rfl, rfl⟩)
    go_ret2
    exact H.out _
theorem rborn_calls (h : Ref B w g hv iv ps m) (a : Int) (hn : 0 < m.n) : Calls Try.prog 34 #[.pointer (some ⟨g, 0, none⟩), .int .i64 a] w fun e w' => e = .returned (.int .i64 (bornD m a).2.2) ∧ w' = w := by
  have c0 := h.c0
  unfold bornD
  obtain ⟨n, hs, ws⟩ := m
  simp only at c0 hn
  clear h
  have hb : bad ⟨n, hs, ws⟩ 0 = false := by unfold bad; simp; omega
  rw [hb, Bool.false_or]
  have hn0 : ((n : Int) == 0) = false := by simp; omega
  by_cases h1 : a ≤ 0
  · have e : (if decide (a < 1) = true then (1 : Int) else 0) = 1 := by rw [if_pos (by simp; omega)]
    simp only [e]
    go_enter Try.func34, Try.ntmps34
    go_wp2
    go_ret
    exact ⟨rfl, rfl⟩
  · have e : (if decide (a < 1) = true then (1 : Int) else 0) = 0 := by rw [if_neg (by simp; omega)]
    simp only [e]
    go_enter Try.func34, Try.ntmps34
    go_wp2
    go_ret
    exact ⟨rfl, rfl⟩
theorem ref_putCell (h : Ref B w g hv iv ps m) (t k : Nat) (ht : t < m.n) (hk : k < 3) (a : Int) : Ref B (w.setCell ⟨(ps.getD t (0, 0)).1, k, none⟩ (.int .i64 a)) g hv iv ps (held m t k a) := by
  have hpl := h.pl
  have hlen := h.len
  obtain ⟨cells, hty⟩ := Kd.R_typed (h.hl.row t (by omega)) _ rfl
  refine ⟨by show (m.hs.set _ _).length = m.n * 3; rw [List.length_set, h.len], h.small, h.bg, ?_, h.hl.putCell t k (by omega) hk (by omega) a, h.pl, Kd.R_set h.it hty (by decide) _ _⟩
  exact (Below.heap_setCell w ⟨(ps.getD t (0, 0)).1, k, none⟩ _ g (ne_of_tag h.top hty (by decide))).trans h.top
theorem rhold_calls (h : Ref B w g hv iv ps m) (hB : B ≤ w.heap.size) (t k a : Int) : Calls Try.prog 33 #[.pointer (some ⟨g, 0, none⟩), .int .i64 t, .int .i64 k, .int .i64 a] w (ToldR B w g hv iv ps (holdD m t k a)) := by
  have HT := Aside0.mk (isThread_calls h t)
  unfold holdD
  by_cases hbad : (bad m t || decide (k < 0) || decide (3 ≤ k) || decide (a < 0)) = true
  · rw [if_pos hbad]
    have H := Aside0.mk (toldR_same h hB 1)
    cases hb : bad m t with
    | true =>
      rw [hb] at HT
      clear hbad h hb
      go_enter Try.func33, Try.ntmps33
      go_wp2_with (go_at_call 45; refine (HT.out).mono ?_; rintro e w' ⟨rfl, rfl⟩)
      go_ret2
      exact H.out
    | false =>
      rw [hb] at HT hbad
      have hc : k < 0 ∨ (0 ≤ k ∧ 3 ≤ k) ∨ (0 ≤ k ∧ k < 3 ∧ a < 0) := by
        simp only [Bool.false_or, Bool.or_eq_true, decide_eq_true_eq] at hbad
        omega
      clear hbad h hb
      rcases hc with hc | ⟨hc, hc2⟩ | ⟨hc, hc2, hc3⟩
      all_goals
        go_enter Try.func33, Try.ntmps33
        go_wp2_with (go_at_call 45; refine (HT.out).mono ?_; rintro e w' ⟨rfl, rfl⟩)
        go_ret2
        exact H.out
  · rw [if_neg hbad]
    simp only [Bool.or_eq_true, decide_eq_true_eq, not_or, Bool.not_eq_true] at hbad
    obtain ⟨⟨⟨hb, h0⟩, h3⟩, ha⟩ := hbad
    rw [hb] at HT
    simp only [bad, Bool.or_eq_false_iff, decide_eq_false_iff_not] at hb
    obtain ⟨tn, rfl⟩ := Int.eq_ofNat_of_zero_le (show 0 ≤ t by omega)
    obtain ⟨kn, rfl⟩ := Int.eq_ofNat_of_zero_le (show 0 ≤ k by omega)
    have hkn : kn < 3 := by omega
    have htn : tn < m.n := by omega
    have hpl := h.pl
    obtain ⟨A, c, rfl⟩ := h.hl.slice
    obtain ⟨gh, rfl, hbg, hgl, hc1, _⟩ := h.hl.cell tn (by omega)
    obtain ⟨hc2, hf2⟩ := h.hl.cellRow tn kn (by omega) hkn
    have hput := ref_putCell h tn kn htn hkn a
    have hrow := h.hl.row_lt tn (by omega)
    have hmem := rows_mem (ps := ps) tn (by omega)
    have cc1 := h.c1
    rw [hpl] at *
    generalize ps.getD tn (0, 0) = q at *
    obtain ⟨q1, q2⟩ := q
    simp only [encP] at hc1 hc2 hf2 hput hrow hmem
    have HP := Aside0.mk hput
    have HM := Aside0.mk hmem
    clear h hput hmem
    rw [Int.toNat_natCast, Int.toNat_natCast]
    go_enter Try.func33, Try.ntmps33
    go_wp2_with (go_at_call 45; refine (HT.out).mono ?_; rintro e w' ⟨rfl, rfl⟩)
    go_ret2
    exact ⟨_, rfl, Kd.R_nil _ _ _ _ _, _, _, _, HP.out, (Kept.refl _ _).setCell (p := ⟨q1, kn, none⟩) (.inl (.inr (.inr (.inr HM.out)))) _, (Below.refl _ _).setCell (p := ⟨q1, kn, none⟩) hrow.1 _, fun k hk => .inl hk⟩
end
theorem rbound_calls (t : Int) (W : World) : Calls Try.prog 19 #[.int .i64 t] W fun e w' => e = .returned (.tuple #[.int .i64 (if 1 ≤ t ∧ t ≤ 4 then 3 * t * t else 0), .int .i64 (if 1 ≤ t ∧ t ≤ 4 then 0 else 1)]) ∧ w' = W := by
  by_cases h : 1 ≤ t ∧ t ≤ 4
  · rw [if_pos h, if_pos h]
    have hc : t = 1 ∨ t = 2 ∨ t = 3 ∨ t = 4 := by omega
    rcases hc with rfl | rfl | rfl | rfl
    all_goals
      go_enter Try.func19, Try.ntmps19
      go_wp2
      go_ret2
      exact ⟨rfl, rfl⟩
  · rw [if_neg h, if_neg h]
    have hc : t < 1 ∨ (1 ≤ t ∧ 4 < t) := by omega
    clear h
    rcases hc with hc | ⟨hc, hc2⟩
    all_goals
      go_enter Try.func19, Try.ntmps19
      go_wp2
      go_ret2
      exact ⟨rfl, rfl⟩
end Go.Proofs.Ytgdadefobhfkcaa.Hy
