/- That a stack gives back what was pushed, the last one first, and a queue the first one first: the plain law; no condition. -/
import Derived.Test.YtiialjmpfeopjaaXSt2
import Derived.Test.YtiialjmpfeopjaaPwB
namespace Go.Proofs.Ytiialjmpfeopjaa.Pure
open Go.RowKit Go.Proofs.Ytiialjmpfeopjaa.XSt Go.Proofs.YtiialjmpfeopjaaW.PrintWords Go.Proofs.YtiialjmpfeopjaaW.PrintLast
set_option linter.unusedVariables false
set_option linter.unusedSimpArgs false
set_option linter.unusedSectionVars false
def pushQ (x : Int) : S27 := ⟨⟨#[112, 117, 115, 104]⟩, x, 0⟩
def popQ : S27 := ⟨⟨#[112, 111, 112]⟩, 0, 0⟩
def enqQ (x : Int) : S27 := ⟨⟨#[101, 110, 113]⟩, x, 0⟩
def deqQ : S27 := ⟨⟨#[100, 101, 113]⟩, 0, 0⟩
theorem awake_true : locklesslaw18_awake.f = some true := by
  unfold locklesslaw18_awake.f spec_Run.f
  have h : Sp.runS 2 1 (List.map callT [(⟨⟨#[101, 110, 113]⟩, 5, 0⟩ : S27), ⟨⟨#[101, 110, 113]⟩, 6, 0⟩, ⟨⟨#[100, 101, 113]⟩, 0, 0⟩]) = some ([0, 0, 5], [6], 0) := Sp.awake_run
  rw [if_pos ⟨by decide, by decide⟩, h]
  rfl
theorem run_of {r n : Int} {l : List S27} {o s : List Int} (h10 : r ≠ 10) (hl : l.length ≤ 1000000) (h : Sp.runS r n (l.map callT) = some (o, s, 0)) (ho : o.length = l.length) : locklesslaw18_run.f r n l = some (o, true) := by
  unfold locklesslaw18_run.f spec_Run.f
  rw [if_pos ⟨h10, hl⟩, h]
  simp [ho]
theorem rd_left {a b : List Int} (i : Nat) (h : i < a.length) : rd (a ++ b) (i : Int) = rd a (i : Int) := by
  unfold rd; rw [Int.toNat_natCast, List.getD_eq_getElem?_getD, List.getD_eq_getElem?_getD, List.getElem?_append_left h]
theorem rd_right {a b : List Int} (i : Nat) : rd (a ++ b) ((a.length + i : Nat) : Int) = rd b (i : Int) := by
  unfold rd; rw [Int.toNat_natCast, Int.toNat_natCast, List.getD_eq_getElem?_getD, List.getD_eq_getElem?_getD, List.getElem?_append_right (by omega), Nat.add_sub_cancel_left]
theorem rd_zeros (n : Nat) (l : List Int) (i : Nat) : rd (List.replicate n 0 ++ l) ((n + i : Nat) : Int) = rd l (i : Int) := by
  have := rd_right (a := List.replicate n (0 : Int)) (b := l) i
  rwa [List.length_replicate] at this
theorem rd_rev (l : List Int) (i : Nat) (h : i < l.length) : rd l.reverse (i : Int) = rd l ((l.length - 1 - i : Nat) : Int) := by
  unfold rd; rw [Int.toNat_natCast, Int.toNat_natCast, List.getD_eq_getElem?_getD, List.getD_eq_getElem?_getD, List.getElem?_reverse h]
theorem rd_last (l : List Int) (x : Int) : rd (l ++ [x]) (l.length : Int) = x := by unfold rd; simp
section
variable (ws : List Int) (hl : ws.length ≤ 11) (hw : ∀ x ∈ ws, 0 ≤ x ∧ x ≤ 900)
include hl hw
theorem st_l2 : ∀ (d k i : Nat), ws.length - i ≤ d → d < k → i ≤ ws.length → locklesslaw18_SpecStacks.l2 k ws (ws.length : Int) (List.replicate ws.length 0 ++ (ws.reverse ++ [-1])) (List.replicate ws.length 0 ++ (ws ++ [-1])) (i : Int) = some true := by
  intro d
  induction d with
  | zero =>
    intro k i h1 h2 h3
    obtain ⟨k, rfl⟩ : ∃ m, k = m + 1 := ⟨k - 1, by omega⟩
    simp only [locklesslaw18_SpecStacks.l2]
    rw [if_neg (by omega)]
  | succ d ih =>
    intro k i h1 h2 h3
    obtain ⟨k, rfl⟩ : ∃ m, k = m + 1 := ⟨k - 1, by omega⟩
    simp only [locklesslaw18_SpecStacks.l2]
    by_cases hi : i < ws.length
    · have e1 : wrap64 ((ws.length : Int) + i) = ((ws.length + i : Nat) : Int) := by unfold wrap64; omega
      have e2 : wrap64 (wrap64 ((ws.length : Int) - 1) - i) = ((ws.length - 1 - i : Nat) : Int) := by unfold wrap64; omega
      have e3 : wrap64 ((i : Int) + 1) = ((i + 1 : Nat) : Int) := by unfold wrap64; omega
      have r1 : rd (List.replicate ws.length 0 ++ (ws.reverse ++ [-1])) ((ws.length + i : Nat) : Int) = rd ws ((ws.length - 1 - i : Nat) : Int) := by
        rw [rd_zeros, rd_left i (by simpa using hi), rd_rev ws i hi]
      have r2 : rd (List.replicate ws.length 0 ++ (ws ++ [-1])) ((ws.length + i : Nat) : Int) = rd ws (i : Int) := by
        rw [rd_zeros, rd_left i hi]
      rw [e1, e2, e3, r1, r2]
      rw [if_pos (by omega), if_pos (by omega), if_pos (by simp; omega), if_pos (by omega), if_pos (by omega), if_pos rfl, if_pos (by simp; omega), if_pos (by omega), if_pos (by omega), if_pos rfl]
      exact ih k (i + 1) (by omega) (by omega) (by omega)
    · rw [if_neg (by omega)]
theorem st_run1 : locklesslaw18_run.f 1 1 (ws.map pushQ ++ List.replicate (ws.length + 1) popQ) = some (List.replicate ws.length 0 ++ (ws.reverse ++ [-1]), true) := by
  have m1 : (ws.map pushQ ++ List.replicate (ws.length + 1) popQ).map callT = ws.map Sp.pushC ++ List.replicate (ws.length + 1) Sp.popC := by rw [List.map_append, List.map_map, List.map_replicate]; rfl
  refine run_of (by omega) ?_ (by rw [m1]; exact Sp.stack_run ws hl hw) ?_
  · rw [List.length_append, List.length_map, List.length_replicate]; omega
  · simp
theorem st_run2 : locklesslaw18_run.f 2 1 (ws.map enqQ ++ List.replicate (ws.length + 1) deqQ) = some (List.replicate ws.length 0 ++ (ws ++ [-1]), true) := by
  have m1 : (ws.map enqQ ++ List.replicate (ws.length + 1) deqQ).map callT = ws.map Sp.enqC ++ List.replicate (ws.length + 1) Sp.deqC := by rw [List.map_append, List.map_map, List.map_replicate]; rfl
  refine run_of (by omega) ?_ (by rw [m1]; exact Sp.queue_run ws hl hw) ?_
  · rw [List.length_append, List.length_map, List.length_replicate]; omega
  · simp
theorem st_last1 : rd (List.replicate ws.length 0 ++ (ws.reverse ++ [-1])) ((ws.length + ws.length : Nat) : Int) = -1 := by
  rw [rd_zeros]
  have := rd_last ws.reverse (-1)
  rwa [List.length_reverse] at this
theorem st_last2 : rd (List.replicate ws.length 0 ++ (ws ++ [-1])) ((ws.length + ws.length : Nat) : Int) = -1 := by
  rw [rd_zeros]
  exact rd_last ws (-1)
theorem st_end (k : Nat) (hk : 20 < k) : locklesslaw18_SpecStacks.l1 k (ws.map pushQ ++ List.replicate (ws.length + 1) popQ) (ws.map enqQ ++ List.replicate (ws.length + 1) deqQ) ws (ws.length : Int) ((ws.length + 1 : Nat) : Int) = some true := by
  obtain ⟨k, rfl⟩ : ∃ m, k = m + 1 := ⟨k - 1, by omega⟩
  obtain ⟨k, rfl⟩ : ∃ m, k = m + 1 := ⟨k - 1, by omega⟩
  simp only [locklesslaw18_SpecStacks.l1]
  have e1 : wrap64 (2 * (ws.length : Int)) = ((ws.length + ws.length : Nat) : Int) := by unfold wrap64; omega
  have r1 := st_last1 ws hl hw
  have r2 := st_last2 ws hl hw
  rw [if_neg (by omega), st_run1 ws hl hw, st_run2 ws hl hw]
  rw [Option.bind_some, Option.bind_some, if_pos rfl, if_pos rfl]
  have h5 : ((ws.length + ws.length : Nat) : Int) < ((List.replicate ws.length (0 : Int) ++ (ws.reverse ++ [-1])).length : Int) := by rw [List.length_append, List.length_append, List.length_replicate, List.length_reverse, List.length_singleton]; omega
  have h6 : ((ws.length + ws.length : Nat) : Int) < ((List.replicate ws.length (0 : Int) ++ (ws ++ [-1])).length : Int) := by rw [List.length_append, List.length_append, List.length_replicate, List.length_singleton]; omega
  rw [e1, r1, r2, if_pos (by omega), if_pos h5, if_pos rfl, if_pos h6]
  have h7 := st_l2 ws hl hw ws.length k 0 (by omega) (by omega) (by omega)
  simp only [locklesslaw18_SpecStacks.j3]
  rw [if_neg (by simp)]
  exact h7
theorem st_l1 : ∀ (d k i : Nat), ws.length + 1 - i ≤ d → d + 20 < k → i ≤ ws.length + 1 → locklesslaw18_SpecStacks.l1 k (ws.map pushQ ++ List.replicate i popQ) (ws.map enqQ ++ List.replicate i deqQ) ws (ws.length : Int) (i : Int) = some true := by
  intro d
  induction d with
  | zero =>
    intro k i h1 h2 h3
    obtain rfl : i = ws.length + 1 := by omega
    exact st_end ws hl hw k (by omega)
  | succ d ih =>
    intro k i h1 h2 h3
    by_cases hi : i ≤ ws.length
    · obtain ⟨k, rfl⟩ : ∃ m, k = m + 1 := ⟨k - 1, by omega⟩
      simp only [locklesslaw18_SpecStacks.l1]
      have e3 : wrap64 ((i : Int) + 1) = ((i + 1 : Nat) : Int) := by unfold wrap64; omega
      rw [if_pos (by omega), if_pos (by simp; omega), if_pos (by simp; omega), e3]
      have := ih k (i + 1) (by omega) (by omega) (by omega)
      rw [List.replicate_succ', List.replicate_succ', ← List.append_assoc, ← List.append_assoc] at this
      exact this
    · obtain rfl : i = ws.length + 1 := by omega
      exact st_end ws hl hw k (by omega)
theorem st_j1 (k : Nat) (hk : 40 < k) : locklesslaw18_SpecStacks.j1 k (ws.map pushQ) (ws.map enqQ) ws = some true := by
  obtain ⟨k, rfl⟩ : ∃ m, k = m + 1 := ⟨k - 1, by omega⟩
  simp only [locklesslaw18_SpecStacks.j1]
  have := st_l1 ws hl hw (ws.length + 1) k 0 (by omega) (by omega) (by omega)
  rw [List.replicate_zero, List.replicate_zero, List.append_nil, List.append_nil] at this
  exact this
end
theorem st_l0 (x0 : List Int) : ∀ (d k : Nat) (ws : List Int), 11 - ws.length ≤ d → d + 50 < k → ws.length ≤ 11 → (∀ x ∈ ws, 0 ≤ x ∧ x ≤ 900) → locklesslaw18_SpecStacks.l0 k x0 (ws.map pushQ) (ws.map enqQ) ws (ws.length : Int) = some true := by
  intro d
  induction d with
  | zero =>
    intro k ws h1 h2 h3 hw
    obtain ⟨k, rfl⟩ : ∃ m, k = m + 1 := ⟨k - 1, by omega⟩
    simp only [locklesslaw18_SpecStacks.l0]
    rw [if_neg (show ¬ ((ws.length : Int) < 11) by omega), ite_self]
    exact st_j1 ws h3 hw k (by omega)
  | succ d ih =>
    intro k ws h1 h2 h3 hw
    obtain ⟨k, rfl⟩ : ∃ m, k = m + 1 := ⟨k - 1, by omega⟩
    simp only [locklesslaw18_SpecStacks.l0]
    by_cases ha : (ws.length : Int) < (x0.length : Int)
    · by_cases hb : (ws.length : Int) < 11
      · rw [if_pos ha, if_pos hb, if_pos (by omega), if_pos (by omega), if_pos (by simp; omega), if_pos (by simp; omega)]
        have hm := Sp.word_mod (rd x0 (ws.length : Int)) 901 (by decide) (by decide)
        generalize wrap64 (Int.tmod (IntKind.u64.wrap (rd x0 (ws.length : Int))) 901) = x at hm
        have e3 : wrap64 ((ws.length : Int) + 1) = (((ws ++ [x]).length : Nat) : Int) := by rw [List.length_append, List.length_singleton]; unfold wrap64; omega
        have := ih k (ws ++ [x]) (by simp; omega) (by omega) (by simp; omega) (fun z hz => by
          rcases List.mem_append.1 hz with h | h
          · exact hw z h
          · rw [List.mem_singleton.1 h]; omega)
        rw [List.map_append, List.map_append] at this
        rw [e3]
        exact this
      · rw [if_neg hb, ite_self]
        exact st_j1 ws h3 hw k (by omega)
    · rw [if_neg ha]
      exact st_j1 ws h3 hw k (by omega)
theorem SpecStacks : locklesslaw18_SpecStacks.Pure := by
  intro l0 _ _ _
  refine ⟨100, ?_⟩
  unfold locklesslaw18_SpecStacks.f
  rw [awake_true]
  simp only [Option.bind_some, if_true]
  exact st_l0 l0 11 100 [] (by simp) (by decide) (by simp) (by simp)
end Go.Proofs.Ytiialjmpfeopjaa.Pure
