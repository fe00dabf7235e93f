/- The outcomes of a program, each once and ascending; the contracts in one piece: plain lemmas; no condition. -/
import Derived.Test.YtgfbgbclpeihdaaLiO
namespace Go.Proofs.Ytgfbgbclpeihdaa.Li
open Go.RowKit Go.Proofs.YtgfbgbclpeihdaaW.PrintWords Go.Proofs.YtgfbgbclpeihdaaW.PrintLast Go.Proofs.YtgfbgbclpeihdaaW.PrintMore
set_option linter.unusedVariables false
set_option linter.unusedSimpArgs false
def insU (x : List Int) : List (List Int) → List (List Int)
  | [] => [x]
  | y :: R => if cmpL x y < 0 then x :: y :: R else if cmpL x y = 0 then y :: R else y :: insU x R
theorem insU_mem (x : List Int) : ∀ R z, z ∈ insU x R ↔ z = x ∨ z ∈ R
  | [], z => by simp [insU]
  | y :: R, z => by
    unfold insU
    split
    · simp
    split
    · rename_i h
      rw [cmpL_zero h]
      simp
    · rw [List.mem_cons, insU_mem x R z, List.mem_cons]
      constructor
      · rintro (h | h | h)
        · exact .inr (.inl h)
        · exact .inl h
        · exact .inr (.inr h)
      · rintro (h | h | h)
        · exact .inr (.inl h)
        · exact .inl h
        · exact .inr (.inr h)
theorem insU_asc (x : List Int) : ∀ R, AscL R → AscL (insU x R)
  | [], _ => by simp [insU, AscL]
  | y :: R, h => by
    unfold AscL at h ⊢
    rw [List.pairwise_cons] at h
    unfold insU
    split
    · rename_i hx
      rw [List.pairwise_cons, List.pairwise_cons]
      refine ⟨fun z hz => ?_, h⟩
      rcases List.mem_cons.1 hz with rfl | hz
      · exact hx
      · exact cmpL_trans hx (h.1 z hz)
    split
    · rw [List.pairwise_cons]; exact h
    · rename_i h1 h2
      rw [List.pairwise_cons]
      refine ⟨fun z hz => ?_, insU_asc x R h.2⟩
      rcases (insU_mem x R z).1 hz with rfl | hz
      · have := cmpL_neg y z; have := cmpL_neg z y; omega
      · exact h.1 z hz
def sortU (l : List (List Int)) : List (List Int) := l.foldr insU []
theorem sortU_mem (l : List (List Int)) (z : List Int) : z ∈ sortU l ↔ z ∈ l := by
  induction l with
  | nil => simp [sortU]
  | cons x l ih =>
    show z ∈ insU x (sortU l) ↔ _
    rw [insU_mem, ih, List.mem_cons]
theorem sortU_asc (l : List (List Int)) : AscL (sortU l) := by
  induction l with
  | nil => simp [sortU, AscL]
  | cons x l ih => exact insU_asc x _ ih
theorem inter_calls (P : List (List LOp)) (A : Option Addr) (c : Nat) (w : World) (hp : PAt w A P) (hl : P.flatten.length ≤ 1000000) (hl2 : P.length ≤ 1000000) :
    Calls Try.prog 17 #[.agg #[.slice A P.length c]] w fun e w' => ∃ v, e = .returned (.tuple #[v, .int .i64 (checkL P)]) ∧ Kd.R (Kd.slice 3 (Kd.int .i64)) 46 w' w.heap.size (fun _ => True) v (if checkL P = 0 then sortU (outAll P) else []) ∧ Below w.heap.size w w' := by
  by_cases hz : checkL P = 0
  · rw [if_pos hz]
    refine (inter_good P A c w hp hl hl2 hz).mono ?_
    rintro e w' ⟨v, R, rfl, h1, h2, h3, h4⟩
    have hR : R = sortU (outAll P) := asc_unique h2 (sortU_asc _) (fun x => by rw [h3, sortU_mem])
    rw [← hR, hz]
    exact ⟨v, rfl, h1, h4⟩
  · rw [if_neg hz]
    refine (inter_bad P A c w hp hl hl2 hz).mono ?_
    rintro e w' ⟨rfl, h4⟩
    exact ⟨_, rfl, Kd.R_nil _ _ _ _ _, h4⟩
/-- The example of the chapter. -/
theorem sane_plain : sortU (outAll [[⟨1, 0, 1, 0, 0⟩, ⟨0, 1, 0, 0, 0⟩], [⟨1, 1, 1, 0, 0⟩, ⟨0, 0, 0, 0, 0⟩]]) = [[0, 1, 1, 1, 0], [1, 0, 1, 1, 0], [1, 1, 1, 1, 0]] := by decide +kernel
theorem sane_check : checkL [[⟨1, 0, 1, 0, 0⟩, ⟨0, 1, 0, 0, 0⟩], [⟨1, 1, 1, 0, 0⟩, ⟨0, 0, 0, 0, 0⟩]] = 0 := by decide +kernel
end Go.Proofs.Ytgfbgbclpeihdaa.Li
