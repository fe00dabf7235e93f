/- Round is the reference's, of every two numbers, and is fair with as many steps as there are threads: what the printed law computes; no condition. -/
import Derived.Test.YtefhhaccoeljmaaSpB
import Derived.Test.YtefhhaccoeljmaaXS2
namespace Go.Proofs.Ytefhhaccoeljmaa.XS
open Go.RowKit Go.Proofs.YtefhhaccoeljmaaW.PrintWords Go.Proofs.YtefhhaccoeljmaaW.PrintLast

def roundL (th n : Nat) : List Int := (List.range n).map fun i => ((i % th : Nat) : Int)
theorem roundL_succ (th n : Nat) : roundL th (n + 1) = roundL th n ++ [((n % th : Nat) : Int)] := by simp [roundL, List.range_succ]
theorem roundL_len (th n : Nat) : (roundL th n).length = n := by simp [roundL]
theorem tmod_nat (i th : Nat) : Int.tmod (i : Int) (th : Int) = ((i % th : Nat) : Int) := by rw [Int.tmod_eq_emod_of_nonneg (by omega)]; rfl
theorem progRound_loop (th n : Nat) (hth : 0 < th) (hn : n ≤ 600) : ∀ d k (i : Nat), n - i = d → i ≤ n → d < k → sched_Round.l0 k th (roundL th i) n i = some (roundL th n, 0) := by
  intro d
  induction d with
  | zero =>
    intro k i hd hi hk
    obtain ⟨k, rfl⟩ : ∃ m, k = m + 1 := ⟨k - 1, by omega⟩
    have : i = n := by omega
    subst this
    rw [sched_Round.l0, if_neg (by omega)]
  | succ d ih =>
    intro k i hd hi hk
    obtain ⟨k, rfl⟩ : ∃ m, k = m + 1 := ⟨k - 1, by omega⟩
    have hl := roundL_len th i
    rw [sched_Round.l0, if_pos (by omega), if_neg (by omega), if_pos (by omega), wrap_succ i (by omega), tmod_nat, ← roundL_succ]
    exact ih k (i + 1) (by omega) (by omega) (by omega)
theorem refRound_loop (th n : Nat) (hth : 0 < th) (hn : n ≤ 600) : ∀ d k (i : Nat), n - i = d → i ≤ n → d < k → locklessref23_Round.l0 k th n (roundL th i) i = some (roundL th n, 0) := by
  intro d
  induction d with
  | zero =>
    intro k i hd hi hk
    obtain ⟨k, rfl⟩ : ∃ m, k = m + 1 := ⟨k - 1, by omega⟩
    have : i = n := by omega
    subst this
    rw [locklessref23_Round.l0, if_neg (by omega)]
  | succ d ih =>
    intro k i hd hi hk
    obtain ⟨k, rfl⟩ : ∃ m, k = m + 1 := ⟨k - 1, by omega⟩
    have hl := roundL_len th i
    rw [locklessref23_Round.l0, if_pos (by omega), if_neg (by omega), if_pos (by omega), wrap_succ i (by omega), tmod_nat, ← roundL_succ]
    exact ih k (i + 1) (by omega) (by omega) (by omega)
def roundOk (th n : Int) : Bool := decide (1 ≤ th ∧ th ≤ 4) && decide (0 ≤ n ∧ n ≤ 600)
theorem progRound (th n : Int) (k : Nat) (hk : 1000 ≤ k) : sched_Round.f k th n = some (if roundOk th n then (roundL th.toNat n.toNat, 0) else ([], 1)) := by
  obtain ⟨k, rfl⟩ : ∃ m, k = m + 1 := ⟨k - 1, by omega⟩
  unfold sched_Round.f roundOk
  by_cases h1 : th < 1
  · simp [h1, sched_Round.j0, show ¬ (1 ≤ th) by omega]
  · by_cases h2 : th > 4
    · simp [h1, h2, sched_Round.j0, show ¬ (th ≤ 4) by omega]
    · by_cases h3 : n < 0
      · simp [h1, h2, h3, sched_Round.j0, show ¬ (0 ≤ n) by omega]
      · by_cases h4 : n > 600
        · simp [h1, h2, h3, h4, sched_Round.j0, show ¬ (n ≤ 600) by omega]
        · obtain ⟨a, rfl⟩ := Int.eq_ofNat_of_zero_le (show 0 ≤ th by omega)
          obtain ⟨b, rfl⟩ := Int.eq_ofNat_of_zero_le (show 0 ≤ n by omega)
          have e : decide ((b : Int) > 600) = false := by simp; omega
          rw [if_neg h1, if_neg h2, if_neg h3, e, sched_Round.j0, if_neg (by decide)]
          have := progRound_loop a b (by omega) (by omega) b k 0 (by omega) (by omega) (by omega)
          rw [show roundL a 0 = [] from rfl] at this
          rw [show sched_Round.l0 k a [] b 0 = _ from this]
          simp; omega
theorem refRound (th n : Int) (k : Nat) (hk : 1000 ≤ k) : locklessref23_Round.f k th n = some (if roundOk th n then (roundL th.toNat n.toNat, 0) else ([], 1)) := by
  obtain ⟨k, rfl⟩ : ∃ m, k = m + 1 := ⟨k - 1, by omega⟩
  unfold locklessref23_Round.f roundOk
  rw [upTo_some, upTo_some]
  simp only [Option.bind_some]
  by_cases h1 : 1 ≤ th ∧ th ≤ 4
  · by_cases h2 : 0 ≤ n ∧ n ≤ 600
    · obtain ⟨a, rfl⟩ := Int.eq_ofNat_of_zero_le (show 0 ≤ th by omega)
      obtain ⟨b, rfl⟩ := Int.eq_ofNat_of_zero_le (show 0 ≤ n by omega)
      rw [decide_eq_true h1, decide_eq_true h2, if_pos rfl, locklessref23_Round.j0, if_neg (by decide)]
      have := refRound_loop a b (by omega) (by omega) b k 0 (by omega) (by omega) (by omega)
      rw [show roundL a 0 = [] from rfl] at this
      rw [show locklessref23_Round.l0 k a b [] 0 = _ from this]
      rfl
    · simp [h1, h2, locklessref23_Round.j0]
  · simp [h1, locklessref23_Round.j0]
theorem round_valid (th n : Nat) (h1 : 1 ≤ th) (h4 : th ≤ 4) (hn : n ≤ 600) : validL (roundL th n) = true := by
  refine valid_of _ (by rw [roundL_len]; exact hn) fun x hx => ?_
  simp only [roundL, List.mem_map] at hx
  obtain ⟨i, _, rfl⟩ := hx
  have := Nat.mod_lt i (show 0 < th by omega)
  unfold thr
  rw [if_pos (by omega)]
  omega
theorem round_get (th n i : Nat) (h : i < n) : rd (roundL th n) i = ((i % th : Nat) : Int) := by
  rw [rd_get _ i (by rw [roundL_len]; exact h)]
  simp [roundL]
theorem round_fair (th n : Nat) (h1 : 1 ≤ th) (h4 : th ≤ 4) : fairB (roundL th n) th th = true := by
  refine fairB_true _ _ _ fun fr hfr => fairAt_true _ _ _ _ fun t ht => ?_
  rw [roundL_len] at hfr
  unfold winHas
  rw [List.any_eq_true]
  obtain ⟨i, hi1, hi2, hi3⟩ : ∃ i, fr ≤ i ∧ i < fr + th ∧ i % th = t := by
    refine ⟨th * ((fr + th - 1 - t) / th) + t, ?_⟩
    obtain rfl | rfl | rfl | rfl : th = 1 ∨ th = 2 ∨ th = 3 ∨ th = 4 := by omega
    all_goals omega
  refine ⟨rd (roundL th n) i, ?_, ?_⟩
  · rw [rd_get _ i (by rw [roundL_len]; omega), List.mem_iff_getElem]
    refine ⟨i - fr, by rw [List.length_drop, List.length_take, roundL_len]; omega, ?_⟩
    rw [List.getElem_drop, List.getElem_take]
    congr 1
    omega
  · rw [round_get th n i (by omega), hi3]
    have ht4 : t < 4 := by omega
    have all : ∀ t : Nat, t < 4 → (Int.tmod (t : Int) 10 == (t : Int)) = true := by decide
    exact all t ht4
theorem rounds (th n : Int) : ∃ k, locklesslaw23_SchedRounds.f k th n = some true := by
  refine ⟨5001, ?_⟩
  unfold locklesslaw23_SchedRounds.f
  rw [progRound th n _ (by omega), refRound th n _ (by omega)]
  simp only [Option.bind_some, if_true]
  by_cases hok : roundOk th n = true
  · rw [if_pos hok]
    simp only [roundOk, Bool.and_eq_true, decide_eq_true_eq] at hok
    obtain ⟨⟨h1, h2⟩, h3, h4⟩ := hok
    obtain ⟨a, rfl⟩ := Int.eq_ofNat_of_zero_le (show 0 ≤ th by omega)
    obtain ⟨b, rfl⟩ := Int.eq_ofNat_of_zero_le (show 0 ≤ n by omega)
    have hv := round_valid a b (by omega) (by omega) (by omega)
    have hf := round_fair a b (by omega) (by omega)
    rw [Int.toNat_natCast, Int.toNat_natCast, ints_self _ _ (by rw [roundL_len]; omega) (by rw [roundL_len]; omega)]
    simp only [Option.bind_some]
    rw [locklesslaw23_SchedRounds.j0, if_neg (by decide), if_pos rfl, sched_Fair.f, Int.toNat_natCast, hf, sched_Valid.f, hv]
    have ho : fairOk (roundL a b) a a = true := by
      unfold fairOk
      rw [hv]
      simp; omega
    rw [if_pos ho]
    simp only [Option.bind_some, if_true]
    rw [sane_some _ (by omega)]
    rfl
  · rw [if_neg hok, ints_self _ _ (by simp) (by simp)]
    simp only [Option.bind_some]
    rw [locklesslaw23_SchedRounds.j0, if_neg (by decide), if_neg (by decide), sane_some _ (by omega)]
    rfl
end Go.Proofs.Ytefhhaccoeljmaa.XS
namespace Go.Proofs.Ytefhhaccoeljmaa.Pure
theorem SchedRounds : XS.locklesslaw23_SchedRounds.Pure := fun t n _ _ => XS.rounds t n
end Go.Proofs.Ytefhhaccoeljmaa.Pure
