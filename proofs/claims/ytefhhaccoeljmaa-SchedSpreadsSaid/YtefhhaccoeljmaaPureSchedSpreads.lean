/- Spread is the reference's, of every numbers and number of threads, and is valid; the numbers stay as they are: what the printed law computes; no condition. -/
import Derived.Test.YtefhhaccoeljmaaPureSchedStops
import Derived.Test.YtefhhaccoeljmaaXS8
namespace Go.Proofs.Ytefhhaccoeljmaa.XS
open Go.RowKit Go.Proofs.YtefhhaccoeljmaaW.PrintWords Go.Proofs.YtefhhaccoeljmaaW.PrintLast

theorem tmod_cases (x n : Int) (hn : 0 < n) : (Int.tmod x n < 0 ∧ x % n = Int.tmod x n + n ∧ Int.tdiv x n - 1 = x / n) ∨ (0 ≤ Int.tmod x n ∧ x % n = Int.tmod x n ∧ Int.tdiv x n = x / n) := by
  have h1 := @Int.tmod_eq_emod x n
  have h2 := @Int.tdiv_eq_ediv x n
  have h3 := Int.emod_nonneg x (show n ≠ 0 by omega)
  have h4 := Int.emod_lt_of_pos x hn
  by_cases h : 0 ≤ x ∨ n ∣ x
  · rw [if_pos h] at h1 h2
    right
    omega
  · rw [if_neg h] at h1 h2
    have : Int.sign n = 1 := Int.sign_eq_one_of_pos hn
    left
    omega
theorem tdiv_small (x n : Int) (hn : 0 < n) (h0 : -9223372036854775808 ≤ x) (h1 : x ≤ 9223372036854775807) : -9223372036854775808 ≤ Int.tdiv x n ∧ Int.tdiv x n ≤ 9223372036854775807 := by
  have h2 := @Int.tdiv_eq_ediv x n
  have hs : Int.sign n = 1 := Int.sign_eq_one_of_pos hn
  have h3 := Int.emod_nonneg x (show n ≠ 0 by omega)
  have h4 := Int.emod_add_mul_ediv x n
  have h5 := Int.emod_lt_of_pos x hn
  by_cases hx : 0 ≤ x
  · rw [if_pos (.inl hx)] at h2
    have a1 : 0 ≤ x / n := Int.ediv_nonneg hx (by omega)
    have a2 : x / n ≤ x := Int.ediv_le_self _ hx
    omega
  · have a1 : x / n < 0 := Int.ediv_neg_of_neg_of_pos (by omega) hn
    have a2 : x ≤ x / n := by
      have := Int.mul_le_mul_of_nonpos_right (show (1 : Int) ≤ n by omega) (show x / n + 1 ≤ 0 by omega)
      rw [Int.mul_add] at this
      generalize n * (x / n) = z at this h4
      omega
    split at h2 <;> omega
theorem modulo_some (x n : Int) (hn : 0 < n) (h8 : n ≤ 8) : sched_modulo.f x n = some (x % n) := by
  unfold sched_modulo.f
  rw [if_neg (by omega)]
  have h3 := Int.emod_nonneg x (show n ≠ 0 by omega)
  have h4 := Int.emod_lt_of_pos x hn
  rcases tmod_cases x n hn with ⟨a, b, c⟩ | ⟨a, b, c⟩
  · rw [wrap_id _ (by omega) (by omega), ← b, Int.tmod_eq_emod_of_nonneg h3, Int.emod_emod_of_dvd _ (Int.dvd_refl n)]
  · rw [wrap_id _ (by omega) (by omega), ← b, Int.tmod_eq_emod_of_nonneg (by omega), Int.add_emod_right, Int.emod_emod_of_dvd _ (Int.dvd_refl n)]
theorem refMod_some (x n : Int) (hn : 0 < n) (h8 : n ≤ 8) : locklessref01_Mod.f x n = some (x % n) := by
  unfold locklessref01_Mod.f
  rw [if_neg (by omega)]
  have h3 := Int.emod_nonneg x (show n ≠ 0 by omega)
  have h4 := Int.emod_lt_of_pos x hn
  rcases tmod_cases x n hn with ⟨a, b, c⟩ | ⟨a, b, c⟩
  · rw [if_pos a, wrap_id _ (by omega) (by omega), b]
  · rw [if_neg (by omega), b]
theorem wrap_in (x : Int) (h0 : -9223372036854775808 ≤ x) (h1 : x ≤ 9223372036854775807) : wrap64 x = x := by unfold wrap64; omega
theorem refFloor_some (x n : Int) (hn : 0 < n) (h0 : -9223372036854775808 ≤ x) (h1 : x ≤ 9223372036854775807) : locklessref01_Floor.f x n = some (wrap64 (x / n)) := by
  unfold locklessref01_Floor.f
  rw [if_neg (by omega)]
  obtain ⟨g0, g1⟩ := tdiv_small x n hn h0 h1
  rcases tmod_cases x n hn with ⟨a, b, c⟩ | ⟨a, b, c⟩
  · rw [if_pos a, wrap_in _ g0 g1, c]
  · rw [if_neg (by omega), c]
theorem foldl_map' (f : Int → Int) : ∀ (l acc : List Int), l.foldl (fun acc x => acc ++ [f x]) acc = acc ++ l.map f := by
  intro l
  induction l with
  | nil => intro acc; simp
  | cons x r ih => intro acc; rw [List.foldl_cons, ih]; simp
/-- A step of Spread. -/
def spr (th : Int) (x : Int) : Int := if wrap64 (x / th) % 8 = 0 then x % th + 10 else x % th
theorem progSpread_loop (l : List Int) (th : Int) (k : Nat) (h1 : 1 ≤ th) (h4 : th ≤ 4) (hw : ∀ x ∈ l, -9223372036854775808 ≤ x ∧ x ≤ 9223372036854775807) (hl : l.length < 100000) (hk : l.length + 1 < k) : sched_Spread.l0 k th [] l (l.length : Int) 0 = some (l.map (spr th), 0) := by
  have := idx_loop0 (σ := List Int) l (fun k s i => sched_Spread.l0 k th s l (l.length : Int) i) (fun acc x => acc ++ [spr th x]) (fun s => some (s, 0)) 1 (fun s i => s.length ≤ i)
    (fun k s i hk hi hI => by
      have hm : rd l (i : Int) ∈ l := by rw [rd_get l i hi]; exact List.getElem_mem hi
      obtain ⟨w0, w1⟩ := hw _ hm
      show sched_Spread.l0 (k + 1) th s l (l.length : Int) i = _
      rw [sched_Spread.l0, if_pos (by omega), if_pos (by omega), if_pos (by omega)]
      generalize rd l (i : Int) = x at w0 w1 ⊢
      rw [modulo_some x th (by omega) (by omega)]
      simp only [Option.bind_some]
      obtain ⟨g0, g1⟩ := tdiv_small x th (by omega) w0 w1
      have r0 := Int.emod_nonneg x (show th ≠ 0 by omega)
      have r1 := Int.emod_lt_of_pos x (show 0 < th by omega)
      rw [if_neg (by omega), wrap_succ i (by omega), wrap_id (x % th + 10) (by omega) (by omega)]
      unfold spr
      rcases tmod_cases x th (by omega) with ⟨a, b, c⟩ | ⟨a, b, c⟩
      · rw [if_pos a, wrap_in _ g0 g1, c, modulo_some _ 8 (by decide) (by decide)]
        simp only [Option.bind_some]
        by_cases h8 : wrap64 (x / th) % 8 = 0
        · rw [if_pos h8, if_pos (by omega), if_pos h8]
        · rw [if_neg h8, if_pos (by omega), if_neg h8]
      · rw [if_neg (by omega), c, modulo_some _ 8 (by decide) (by decide)]
        simp only [Option.bind_some]
        by_cases h8 : wrap64 (x / th) % 8 = 0
        · rw [if_pos h8, if_pos (by omega), if_pos h8]
        · rw [if_neg h8, if_pos (by omega), if_neg h8])
    (fun s i hi hI => by rw [List.length_append, List.length_singleton]; omega)
    (fun k s _ _ => by show sched_Spread.l0 (k + 1) th s l (l.length : Int) _ = _; rw [sched_Spread.l0, if_neg (by omega)]) k [] (by omega) (by simp)
  rw [foldl_map', List.nil_append] at this
  exact this
theorem refSpread_loop (l : List Int) (th : Int) (k : Nat) (h1 : 1 ≤ th) (h4 : th ≤ 4) (hw : ∀ x ∈ l, -9223372036854775808 ≤ x ∧ x ≤ 9223372036854775807) (hl : l.length < 100000) (hk : l.length + 1 < k) : locklessref23_Spread.l0 k l th [] 0 = some (l.map (spr th), 0) := by
  have := idx_loop0 (σ := List Int) l (fun k s i => locklessref23_Spread.l0 k l th s i) (fun acc x => acc ++ [spr th x]) (fun s => some (s, 0)) 1 (fun s i => s.length ≤ i)
    (fun k s i hk hi hI => by
      have hm : rd l (i : Int) ∈ l := by rw [rd_get l i hi]; exact List.getElem_mem hi
      obtain ⟨w0, w1⟩ := hw _ hm
      show locklessref23_Spread.l0 (k + 1) l th s i = _
      rw [locklessref23_Spread.l0, if_pos (by omega), if_pos (by omega)]
      generalize rd l (i : Int) = x at w0 w1 ⊢
      have r0 := Int.emod_nonneg x (show th ≠ 0 by omega)
      have r1 := Int.emod_lt_of_pos x (show 0 < th by omega)
      rw [refMod_some x th (by omega) (by omega), refFloor_some x th (by omega) w0 w1]
      simp only [Option.bind_some]
      rw [refMod_some _ 8 (by decide) (by decide)]
      simp only [Option.bind_some]
      rw [wrap_succ i (by omega), wrap_id (x % th + 10) (by omega) (by omega)]
      unfold spr
      by_cases h8 : wrap64 (x / th) % 8 = 0
      · rw [if_pos h8, if_pos (by omega), if_pos h8]
      · rw [if_neg h8, if_pos (by omega), if_neg h8])
    (fun s i hi hI => by rw [List.length_append, List.length_singleton]; omega)
    (fun k s _ _ => by show locklessref23_Spread.l0 (k + 1) l th s _ = _; rw [locklessref23_Spread.l0, if_neg (by omega)]) k [] (by omega) (by simp)
  rw [foldl_map', List.nil_append] at this
  exact this
theorem spr_thr (th x : Int) (h1 : 1 ≤ th) (h4 : th ≤ 4) : 0 ≤ thr (spr th x) := by
  have r0 := Int.emod_nonneg x (show th ≠ 0 by omega)
  have r1 := Int.emod_lt_of_pos x (show 0 < th by omega)
  unfold spr thr
  split
  · rw [if_neg (by omega), if_pos (by omega)]; omega
  · rw [if_pos (by omega)]; omega
def spreadOk (l : List Int) (th : Int) : Bool := decide (l.length ≤ 600) && decide (1 ≤ th ∧ th ≤ 4)
theorem progSpread (l : List Int) (th : Int) (k : Nat) (hw : ∀ x ∈ l, -9223372036854775808 ≤ x ∧ x ≤ 9223372036854775807) (hl : l.length < 100000) (hk : l.length + 2 < k) : sched_Spread.f k l th = some (if spreadOk l th then (l.map (spr th), 0) else ([], 1)) := by
  obtain ⟨k, rfl⟩ : ∃ m, k = m + 1 := ⟨k - 1, by omega⟩
  unfold sched_Spread.f spreadOk
  by_cases h6 : (l.length : Int) > 600
  · simp [h6, sched_Spread.j0, show ¬ (l.length ≤ 600) by omega]
  · by_cases h1 : th < 1
    · simp [h6, h1, sched_Spread.j0, show ¬ (1 ≤ th) by omega]
    · by_cases h4 : th > 4
      · simp [h6, h1, h4, sched_Spread.j0, show ¬ (th ≤ 4) by omega]
      · rw [if_neg h6, if_neg h1, decide_eq_false h4, sched_Spread.j0, if_neg (by decide), progSpread_loop l th k (by omega) (by omega) hw hl (by omega)]
        simp; omega
theorem refSpread (l : List Int) (th : Int) (k : Nat) (hw : ∀ x ∈ l, -9223372036854775808 ≤ x ∧ x ≤ 9223372036854775807) (hl : l.length < 100000) (hk : l.length + 2 < k) : locklessref23_Spread.f k l th = some (if spreadOk l th then (l.map (spr th), 0) else ([], 1)) := by
  obtain ⟨k, rfl⟩ : ∃ m, k = m + 1 := ⟨k - 1, by omega⟩
  unfold locklessref23_Spread.f spreadOk
  by_cases h6 : (l.length : Int) > 600
  · simp [h6, locklessref23_Spread.j0, show ¬ (l.length ≤ 600) by omega]
  · rw [if_neg h6, upTo_some]
    simp only [Option.bind_some]
    by_cases h1 : 1 ≤ th ∧ th ≤ 4
    · rw [decide_eq_true h1, locklessref23_Spread.j0, if_neg (by decide), refSpread_loop l th k h1.1 h1.2 hw hl (by omega)]
      simp; omega
    · simp [h1, locklessref23_Spread.j0]
theorem spreads (l : List Int) (th : Int) (hw : ∀ x ∈ l, (Lit.int .i64 x).wf = true) : ∃ k, locklesslaw23_SchedSpreads.f k l th = some true := by
  have hw : ∀ x ∈ l, -9223372036854775808 ≤ x ∧ x ≤ 9223372036854775807 := fun x hx => by
    have := hw x hx
    simp only [Lit.wf, Bool.and_eq_true, decide_eq_true_eq, IntKind.min, IntKind.max, IntKind.signed, IntKind.bits] at this
    exact ⟨by have := this.1; simpa using this, by have := this.2; simp at this; omega⟩
  refine ⟨5001, ?_⟩
  unfold locklesslaw23_SchedSpreads.f
  by_cases hl : (l.length : Int) > 1500
  · rw [if_pos hl, sane_some _ (by omega)]; rfl
  · rw [if_neg hl, copy_some l (by omega)]
    simp only [Option.bind_some]
    rw [progSpread l th _ hw (by omega) (by omega), refSpread l th _ hw (by omega) (by omega)]
    simp only [Option.bind_some, if_true]
    by_cases hok : spreadOk l th = true
    · rw [if_pos hok]
      simp only [spreadOk, Bool.and_eq_true, decide_eq_true_eq] at hok
      obtain ⟨h6, h1, h4⟩ := hok
      have hv : validL (l.map (spr th)) = true := valid_of _ (by rw [List.length_map]; exact h6) fun x hx => by
        obtain ⟨y, _, rfl⟩ := List.mem_map.1 hx
        exact spr_thr th y h1 h4
      rw [ints_self _ _ (by rw [List.length_map]; omega) (by rw [List.length_map]; omega)]
      simp only [Option.bind_some, if_true]
      rw [ints_self _ _ (by omega) (by omega)]
      simp only [Option.bind_some, if_true]
      rw [sched_Valid.f, hv]
      simp only [Option.bind_some, if_true]
      rw [sane_some _ (by omega)]
      rfl
    · rw [if_neg hok, ints_self _ _ (by simp) (by simp)]
      simp only [Option.bind_some, if_true]
      rw [ints_self _ _ (by omega) (by omega)]
      simp only [Option.bind_some, if_true]
      rw [if_neg (by decide), sane_some _ (by omega)]
      rfl
end Go.Proofs.Ytefhhaccoeljmaa.XS
namespace Go.Proofs.Ytefhhaccoeljmaa.Pure
theorem SchedSpreads : XS.locklesslaw23_SchedSpreads.Pure := fun l t _ _ hw _ => XS.spreads l t hw
end Go.Proofs.Ytefhhaccoeljmaa.Pure
