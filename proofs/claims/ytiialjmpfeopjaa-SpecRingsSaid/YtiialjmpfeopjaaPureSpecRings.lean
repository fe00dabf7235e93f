/- That a ring takes just n words, refuses the next one, and takes one again behind each deq: the plain law; no condition. -/
import Derived.Test.YtiialjmpfeopjaaXRi1
import Derived.Test.YtiialjmpfeopjaaPwD
namespace Go.Proofs.Ytiialjmpfeopjaa.Pure
open Go.RowKit Go.Proofs.Ytiialjmpfeopjaa.XRi Go.Proofs.YtiialjmpfeopjaaW.PrintWords Go.Proofs.YtiialjmpfeopjaaW.PrintLast
set_option linter.unusedVariables false
set_option linter.unusedSimpArgs false
set_option linter.unusedSectionVars false
set_option maxHeartbeats 2000000
def enqQ (x : Int) : S27 := ⟨⟨#[101, 110, 113]⟩, x, 0⟩
def deqQ : S27 := ⟨⟨#[100, 101, 113]⟩, 0, 0⟩
theorem awake_true : locklesslaw18_awake.f = some true := by
  unfold locklesslaw18_awake.f spec_Run.f
  have h : Sp.runS 2 1 (List.map callT [(⟨⟨#[101, 110, 113]⟩, 5, 0⟩ : S27), ⟨⟨#[101, 110, 113]⟩, 6, 0⟩, ⟨⟨#[100, 101, 113]⟩, 0, 0⟩]) = some ([0, 0, 5], [6], 0) := Sp.awake_run
  rw [if_pos ⟨by decide, by decide⟩, h]
  rfl
theorem run_of {r n : Int} {l : List S27} {o s : List Int} (h10 : r ≠ 10) (hl : l.length ≤ 1000000) (h : Sp.runS r n (l.map callT) = some (o, s, 0)) (ho : o.length = l.length) : locklesslaw18_run.f r n l = some (o, true) := by
  unfold locklesslaw18_run.f spec_Run.f
  rw [if_pos ⟨h10, hl⟩, h]
  simp [ho]
/-- The words behind one another. -/
def upTo (w : Int) (k : Nat) : List Int := (List.range k).map fun (j : Nat) => w + (j : Int)
theorem upTo_len (w : Int) (k : Nat) : (upTo w k).length = k := by simp [upTo]
theorem upTo_succ (w : Int) (k : Nat) : upTo w (k + 1) = upTo w k ++ [w + (k : Int)] := by simp [upTo, List.range_succ]
theorem upTo_add (w : Int) (a b : Nat) : upTo w (a + b) = upTo w a ++ upTo (w + a) b := by
  unfold upTo
  rw [List.range_add, List.map_append, List.map_map]
  congr 1
  refine List.map_congr_left (fun j _ => ?_)
  show w + ((a + j : Nat) : Int) = w + a + j
  push_cast; omega
theorem upTo_cons (w : Int) (a : Nat) : upTo w (a + 1) = w :: upTo (w + 1) a := by
  rw [Nat.add_comm, upTo_add]
  show [w + ((0 : Nat) : Int)] ++ upTo (w + ((1 : Nat) : Int)) a = _
  simp
theorem upTo_mem {w : Int} {k : Nat} {x : Int} (h : x ∈ upTo w k) : w ≤ x ∧ x < w + k := by
  unfold upTo at h
  obtain ⟨j, hj, rfl⟩ := List.mem_map.1 h
  have := List.mem_range.1 hj
  omega
section
variable (a b : Nat) (w : Int) (ha : a ≤ 7) (hb : b ≤ 7) (hw : 0 ≤ w ∧ w < 800)
include ha hb hw
def outR (a b : Nat) (w : Int) : List Int := List.replicate (a + 1) 0 ++ List.replicate b (-2) ++ [w, 0, -2]
theorem ri_run : locklesslaw18_run.f 3 ((a + 1 : Nat) : Int) ((upTo w (a + 1 + b)).map enqQ ++ [deqQ, enqQ w, enqQ w]) = some (outR a b w, true) := by
  have m1 : ((upTo w (a + 1 + b)).map enqQ ++ [deqQ, enqQ w, enqQ w]).map callT = (w :: upTo (w + 1) a).map Sp.enqC ++ (upTo (w + (a + 1 : Nat)) b).map Sp.enqC ++ [Sp.deqC, Sp.enqC w, Sp.enqC w] := by
    rw [upTo_add, upTo_cons, List.map_append, List.map_map, List.map_append]
    rfl
  have h1 := Sp.ring_run (n := ((a + 1 : Nat) : Int)) (by omega) (by omega) w (upTo (w + 1) a) (upTo (w + (a + 1 : Nat)) b) (by rw [upTo_len]; push_cast; omega) (by rw [upTo_len]; omega) (by omega) (fun x h => by have := upTo_mem h; omega) (fun x h => by have := upTo_mem h; omega)
  rw [upTo_len, upTo_len] at h1
  refine run_of (by omega) ?_ (by rw [m1]; exact h1) ?_
  · rw [List.length_append, List.length_map, upTo_len]; simp; omega
  · unfold outR; simp [upTo_len]; omega
theorem out_zero (i : Nat) (h : i < a + 1) : rd (outR a b w) (i : Int) = 0 := by
  unfold rd outR
  rw [Int.toNat_natCast, List.getD_eq_getElem?_getD, List.getElem?_append_left (by simp; omega), List.getElem?_append_left (by simp; omega), List.getElem?_replicate_of_lt h]
  rfl
theorem out_two (i : Nat) (h0 : a + 1 ≤ i) (h : i < a + 1 + b) : rd (outR a b w) (i : Int) = -2 := by
  unfold rd outR
  rw [Int.toNat_natCast, List.getD_eq_getElem?_getD, List.getElem?_append_left (by simp; omega), List.getElem?_append_right (by simp; omega), List.getElem?_replicate_of_lt (by simp; omega)]
  rfl
theorem out_end (j : Nat) : rd (outR a b w) ((a + 1 + b + j : Nat) : Int) = rd [w, 0, -2] (j : Int) := by
  unfold rd outR
  rw [Int.toNat_natCast, Int.toNat_natCast, List.getD_eq_getElem?_getD, List.getD_eq_getElem?_getD, List.getElem?_append_right (by simp)]
  congr 2
  simp
theorem out_len : (outR a b w).length = a + 1 + b + 3 := by unfold outR; simp; omega
theorem ri_fin (k : Nat) : locklesslaw18_SpecRings.l1 (k + 1) ((a + 1 : Nat) : Int) (b : Int) w (outR a b w) ((a + 1 + b : Nat) : Int) = some true := by
  have e0 : wrap64 (((a + 1 : Nat) : Int) + (b : Int)) = ((a + 1 + b + 0 : Nat) : Int) := by unfold wrap64; omega
  have e1 : wrap64 (((a + 1 + b + 0 : Nat) : Int) + 1) = ((a + 1 + b + 1 : Nat) : Int) := by unfold wrap64; omega
  have e2 : wrap64 (((a + 1 + b + 0 : Nat) : Int) + 2) = ((a + 1 + b + 2 : Nat) : Int) := by unfold wrap64; omega
  have r0 := out_end a b w ha hb hw 0
  have r1 := out_end a b w ha hb hw 1
  have r2 := out_end a b w ha hb hw 2
  have hl := out_len a b w ha hb hw
  have h0 : rd [w, 0, -2] ((0 : Nat) : Int) = w := rfl
  have h1 : rd [w, 0, -2] ((1 : Nat) : Int) = 0 := rfl
  have h2 : rd [w, 0, -2] ((2 : Nat) : Int) = -2 := rfl
  rw [h0] at r0
  rw [h1] at r1
  rw [h2] at r2
  simp only [locklesslaw18_SpecRings.l1]
  rw [e0, e1, e2, r0, r1, r2, hl, if_neg (by omega), if_pos (by omega), if_pos (by omega), if_pos rfl, if_pos (by omega), if_pos (by omega), if_pos rfl, if_pos (by omega), if_pos (by omega)]
  simp
theorem ri_l1 : ∀ (d k i : Nat), a + 1 + b - i ≤ d → d < k → i ≤ a + 1 + b → locklesslaw18_SpecRings.l1 k ((a + 1 : Nat) : Int) (b : Int) w (outR a b w) (i : Int) = some true := by
  intro d
  induction d with
  | zero =>
    intro k i g1 g2 g3
    obtain ⟨k, rfl⟩ : ∃ m, k = m + 1 := ⟨k - 1, by omega⟩
    obtain rfl : i = a + 1 + b := by omega
    exact ri_fin a b w ha hb hw k
  | succ d ih =>
    intro k i g1 g2 g3
    obtain ⟨k, rfl⟩ : ∃ m, k = m + 1 := ⟨k - 1, by omega⟩
    by_cases hi : i < a + 1 + b
    · have e0 : wrap64 (((a + 1 : Nat) : Int) + (b : Int)) = ((a + 1 + b : Nat) : Int) := by unfold wrap64; omega
      have hl := out_len a b w ha hb hw
      have e3 : wrap64 ((i : Int) + 1) = ((i + 1 : Nat) : Int) := by unfold wrap64; omega
      have := ih k (i + 1) (by omega) (by omega) (by omega)
      simp only [locklesslaw18_SpecRings.l1]
      rw [e0, hl, e3, if_pos (by omega)]
      by_cases hc : a + 1 ≤ i
      · rw [if_pos (by omega), if_pos (by omega), if_pos (by omega), if_pos (out_two a b w ha hb hw i hc hi)]
        exact this
      · rw [if_neg (by omega), if_pos (by omega), if_pos (by omega), if_pos (out_zero a b w ha hb hw i (by omega))]
        exact this
    · obtain rfl : i = a + 1 + b := by omega
      exact ri_fin a b w ha hb hw k
theorem ri_l0 : ∀ (d k i : Nat), a + 1 + b - i ≤ d → d + 30 < k → i ≤ a + 1 + b → locklesslaw18_SpecRings.l0 k ((a + 1 : Nat) : Int) (b : Int) w ((upTo w i).map enqQ) (i : Int) = some true := by
  have e0 : wrap64 (((a + 1 : Nat) : Int) + (b : Int)) = ((a + 1 + b : Nat) : Int) := by unfold wrap64; omega
  have hr := ri_run a b w ha hb hw
  have fin : ∀ k, 20 < k → locklesslaw18_SpecRings.l0 (k + 1) ((a + 1 : Nat) : Int) (b : Int) w ((upTo w (a + 1 + b)).map enqQ) ((a + 1 + b : Nat) : Int) = some true := by
    intro k hk
    have h1 := ri_l1 a b w ha hb hw (a + 1 + b) k 0 (by omega) (by omega) (by omega)
    unfold enqQ deqQ at hr
    unfold enqQ
    simp only [locklesslaw18_SpecRings.l0]
    rw [e0, if_neg (by omega), Option.bind_some, if_pos (by simp [upTo_len]; omega), hr, Option.bind_some, if_pos rfl]
    exact h1
  intro d
  induction d with
  | zero =>
    intro k i g1 g2 g3
    obtain ⟨k, rfl⟩ : ∃ m, k = m + 1 := ⟨k - 1, by omega⟩
    obtain rfl : i = a + 1 + b := by omega
    exact fin k (by omega)
  | succ d ih =>
    intro k i g1 g2 g3
    obtain ⟨k, rfl⟩ : ∃ m, k = m + 1 := ⟨k - 1, by omega⟩
    by_cases hi : i < a + 1 + b
    · have e3 : wrap64 ((i : Int) + 1) = ((i + 1 : Nat) : Int) := by unfold wrap64; omega
      have e4 : wrap64 (w + (i : Int)) = w + (i : Int) := by unfold wrap64; omega
      have := ih k (i + 1) (by omega) (by omega) (by omega)
      rw [upTo_succ, List.map_append] at this
      simp only [locklesslaw18_SpecRings.l0]
      rw [e0, e3, e4, if_pos (by omega), if_pos (by rw [List.length_map, upTo_len]; omega)]
      exact this
    · obtain rfl : i = a + 1 + b := by omega
      exact fin k (by omega)
end
theorem SpecRings : locklesslaw18_SpecRings.Pure := by
  intro a0 a1 a2 _ _ _
  refine ⟨100, ?_⟩
  unfold locklesslaw18_SpecRings.f
  rw [awake_true, Option.bind_some, if_pos rfl, Sp.i64_and7, Sp.i64_and7]
  have hm := Sp.word_mod a2 800 (by decide) (by decide)
  generalize wrap64 (Int.tmod (IntKind.u64.wrap a2) 800) = w at hm
  obtain ⟨a, ha⟩ := Int.eq_ofNat_of_zero_le (show 0 ≤ a0 % 8 by omega)
  obtain ⟨b, hb⟩ := Int.eq_ofNat_of_zero_le (show 0 ≤ a1 % 8 by omega)
  have e : wrap64 (1 + (a : Int)) = ((a + 1 : Nat) : Int) := by unfold wrap64; omega
  rw [ha, hb, e]
  exact ri_l0 a b w (by omega) (by omega) hm (a + 1 + b) 100 0 (by omega) (by omega) (by omega)
end Go.Proofs.Ytiialjmpfeopjaa.Pure
