/- Stores into a list of holds: plain lemmas; no condition. -/
import Derived.Test.YtgdadefobhfkcaaHyK3
namespace Go.Proofs.Ytgdadefobhfkcaa.Hy
open Go.RowKit Go.Proofs.YtgdadefobhfkcaaW.PrintWords Go.Proofs.YtgdadefobhfkcaaW.PrintLast Go.Proofs.YtgdadefobhfkcaaW.PrintMore
set_option linter.unusedVariables false
set_option linter.unusedSimpArgs false
set_option maxHeartbeats 8000000
set_option maxRecDepth 100000
theorem getD_set_ne (l : List Int) (i j : Nat) (a : Int) (h : i ≠ j) : (l.set i a).getD j 0 = l.getD j 0 := by
  rw [List.getD_eq_getElem?_getD, List.getD_eq_getElem?_getD, List.getElem?_set_ne h]
theorem getD_set_eq (l : List Int) (i : Nat) (a : Int) (h : i < l.length) : (l.set i a).getD i 0 = a := by
  rw [List.getD_eq_getElem?_getD, List.getElem?_set_self h]; rfl
theorem three_ne (hs : List Int) (t k t' : Nat) (a : Int) (hk : k < 3) (h : t' ≠ t) : three (hs.set (t * 3 + k) a) t' = three hs t' := by
  unfold three
  rw [getD_set_ne _ _ _ _ (by omega), getD_set_ne _ _ _ _ (by omega), getD_set_ne _ _ _ _ (by omega)]
theorem three_eq (hs : List Int) (t k : Nat) (a : Int) (hk : k < 3) (h : t * 3 + k < hs.length) : three (hs.set (t * 3 + k) a) t = (three hs t).set k a := by
  unfold three
  obtain rfl | rfl | rfl : k = 0 ∨ k = 1 ∨ k = 2 := by omega
  · rw [show t * 3 + 0 = t * 3 from rfl] at *
    rw [getD_set_eq _ _ _ h, getD_set_ne _ _ _ _ (by omega), getD_set_ne _ _ _ _ (by omega)]; rfl
  · rw [getD_set_eq _ _ _ h, getD_set_ne _ _ _ _ (by omega), getD_set_ne _ _ _ _ (by omega)]; rfl
  · rw [getD_set_eq _ _ _ h, getD_set_ne _ _ _ _ (by omega), getD_set_ne _ _ _ _ (by omega)]; rfl
def zeroed (hs : List Int) (t : Nat) : List Int := ((hs.set (t * 3) 0).set (t * 3 + 1) 0).set (t * 3 + 2) 0
theorem zeroed_ne (hs : List Int) (t t' : Nat) (h : t' ≠ t) : three (zeroed hs t) t' = three hs t' := by
  unfold zeroed
  rw [three_ne _ _ _ _ _ (by decide) h, three_ne _ _ _ _ _ (by decide) h]
  exact three_ne hs t 0 t' 0 (by decide) h
theorem zeroed_eq (hs : List Int) (t : Nat) (h : t * 3 + 2 < hs.length) : three (zeroed hs t) t = [0, 0, 0] := by
  unfold zeroed
  rw [three_eq _ _ _ _ (by decide) (by rw [List.length_set, List.length_set]; omega), three_eq _ _ _ _ (by decide) (by rw [List.length_set]; omega), show hs.set (t * 3) 0 = hs.set (t * 3 + 0) 0 from rfl, three_eq hs t 0 0 (by decide) (by omega)]
  rfl
theorem HL.lower {w : World} {base base' : Nat} {v : Value} {ps : List (Nat × Nat)} {hs : List Int} (h : HL w base v ps hs) (hb : base' ≤ base) : HL w base' v ps hs :=
  ⟨Kd.R_lower h.top hb, h.nd, fun t ht => Kd.R_lower (h.row t ht) hb⟩
theorem getD_pair (ps : List (Nat × Nat)) (t : Nat) (ht : t < ps.length) : ps.getD t (0, 0) = ps[t] := by simp [ht]
theorem HL.ne_rows {w : World} {base : Nat} {v : Value} {ps : List (Nat × Nat)} {hs : List Int} (h : HL w base v ps hs) (t t' : Nat) (ht : t < ps.length) (ht' : t' < ps.length) (e : (ps.getD t (0, 0)).1 = (ps.getD t' (0, 0)).1) : t = t' := by
  rw [getD_pair _ _ ht, getD_pair _ _ ht'] at e
  have := h.nd
  rw [List.nodup_iff_pairwise_ne, List.pairwise_iff_getElem] at this
  rcases Nat.lt_trichotomy t t' with hl | hl | hl
  · exact absurd (by rw [List.getElem_map, List.getElem_map]; exact e) (this t t' (by simpa using ht) (by simpa using ht') hl)
  · exact hl
  · exact absurd (by rw [List.getElem_map, List.getElem_map]; exact e.symm) (this t' t (by simpa using ht') (by simpa using ht) hl)
/-- A row's cell is written. -/
theorem HL.putCell {w : World} {base : Nat} {v : Value} {ps : List (Nat × Nat)} {hs : List Int} (h : HL w base v ps hs) (t k : Nat) (ht : t < ps.length) (hk : k < 3) (hl : t * 3 + k < hs.length) (a : Int) :
    HL (w.setCell ⟨(ps.getD t (0, 0)).1, k, none⟩ (.int .i64 a)) base v ps (hs.set (t * 3 + k) a) := by
  have hp := Kd.R_put (h.row t ht) (k : Int) a
  rw [Int.toNat_natCast] at hp
  obtain ⟨cells, hty⟩ := Kd.R_typed (h.row t ht) _ rfl
  refine ⟨Kd.R_set h.top hty (by decide) _ _, h.nd, fun t' ht' => ?_⟩
  by_cases e : t' = t
  · subst e
    rw [three_eq _ _ _ _ hk hl]
    exact hp.1
  · rw [three_ne _ _ _ _ _ hk e]
    refine Kd.R_grown1 (h.row t' ht') rfl hp.2 (fun he => e ?_)
    exact (h.ne_rows t t' ht ht' (by simpa [encP, Value.ownBlock] using he)).symm
theorem HL.cellRow {w : World} {base : Nat} {v : Value} {ps : List (Nat × Nat)} {hs : List Int} (h : HL w base v ps hs) (t k : Nat) (ht : t < ps.length) (hk : k < 3) :
    w.cell? ⟨(ps.getD t (0, 0)).1, k, none⟩ = some (.int .i64 (hs.getD (t * 3 + k) 0)) ∧ w.frozen? ⟨(ps.getD t (0, 0)).1, k, none⟩ = false := by
  have := Kd.R_cell 0 (h.row t ht) (k : Int) (by omega) (by show (k : Int) < 3; omega)
  rw [Int.toNat_natCast] at this
  refine ⟨this.1.trans ?_, this.2⟩
  congr 2
  obtain rfl | rfl | rfl : k = 0 ∨ k = 1 ∨ k = 2 := by omega
  all_goals rfl
/-- A fresh row is stored. -/
theorem HL.putRow {w : World} {base : Nat} {g c : Nat} {ps : List (Nat × Nat)} {hs : List Int} (h : HL w base (.slice (some ⟨g, 0, none⟩) ps.length c) ps hs) (t b cap : Nat) (ht : t < ps.length) (hl : t * 3 + 2 < hs.length)
    (hb : Kd.R (Kd.int .i64) 3 w base (fun _ => True) (encP (b, cap)) [0, 0, 0]) (hf : b ∉ ps.map (·.1)) :
    HL (w.setCell ⟨g, t, none⟩ (encP (b, cap))) base (.slice (some ⟨g, 0, none⟩) (ps.set t (b, cap)).length c) (ps.set t (b, cap)) (zeroed hs t) := by
  have hp := Kd.R_put h.top (t : Int) (b, cap)
  rw [Int.toNat_natCast] at hp
  obtain ⟨cells, hty⟩ := Kd.R_typed h.top g rfl
  rw [List.length_set]
  refine ⟨hp.1, ?_, fun t' ht' => ?_⟩
  · rw [List.map_set]
    have := h.nd
    rw [List.nodup_iff_pairwise_ne, List.pairwise_iff_getElem] at this ⊢
    intro i j hi hj hij
    rw [List.length_set] at hi hj
    rw [List.getElem_set, List.getElem_set]
    split <;> split
    · omega
    · intro e
      exact hf ((show b = _ from e) ▸ List.getElem_mem _)
    · intro e
      exact hf ((show b = _ from e.symm) ▸ List.getElem_mem _)
    · exact this i j hi hj hij
  · rw [List.length_set] at ht'
    have hr : Kd.R (Kd.int .i64) 3 w base (fun _ => True) (encP ((ps.set t (b, cap)).getD t' (0, 0))) (three (zeroed hs t) t') := by
      by_cases e : t' = t
      · subst e
        rw [zeroed_eq _ _ hl, getD_pair _ _ (by rw [List.length_set]; exact ht), List.getElem_set_self]
        exact hb
      · rw [zeroed_ne _ _ _ e, getD_pair _ _ (by rw [List.length_set]; exact ht'), List.getElem_set_ne (fun e2 => e e2.symm), ← getD_pair _ _ ht']
        exact h.row t' ht'
    refine Kd.R_grown2 hr rfl hp.2 (fun k hk he => ?_)
    injection hk with hk
    subst hk
    obtain ⟨c2, hc2⟩ := Kd.R_typed hr g he.symm
    exact ne_of_tag hty hc2 (by decide) rfl
end Go.Proofs.Ytgdadefobhfkcaa.Hy
