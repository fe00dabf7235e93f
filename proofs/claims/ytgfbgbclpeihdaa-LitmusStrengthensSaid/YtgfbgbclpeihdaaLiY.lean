/- AtLeast and Same in plain words: no condition. -/
import Derived.Test.YtgfbgbclpeihdaaLiV
namespace Go.Proofs.Ytgfbgbclpeihdaa.Li
set_option linter.unusedVariables false
set_option linter.unusedSimpArgs false
theorem all2_iff {α : Type} {f : α → α → Bool} {L M : List α} : all2 f L M = true ↔ L.length = M.length ∧ ∀ i (h1 : i < L.length) (h2 : i < M.length), f L[i] M[i] = true := by
  unfold all2
  rw [Bool.and_eq_true, decide_eq_true_eq, List.all_eq_true]
  constructor
  · rintro ⟨h, hz⟩
    refine ⟨h, fun i h1 h2 => ?_⟩
    refine hz (L[i], M[i]) ?_
    rw [List.mem_iff_getElem]
    exact ⟨i, by rw [List.length_zip]; omega, by simp⟩
  · rintro ⟨h, hz⟩
    refine ⟨h, fun p hp => ?_⟩
    obtain ⟨i, hi, rfl⟩ := List.mem_iff_getElem.1 hp
    rw [List.length_zip] at hi
    rw [List.getElem_zip]
    exact hz i (by omega) (by omega)
theorem all2_congr {α : Type} {f g : α → α → Bool} {L M : List α} (h : ∀ x ∈ L, ∀ y ∈ M, f x y = g x y) : all2 f L M = all2 g L M := by
  rw [Bool.eq_iff_iff, all2_iff, all2_iff]
  constructor <;> rintro ⟨e, hz⟩ <;> refine ⟨e, fun i h1 h2 => ?_⟩
  · rw [← h _ (List.getElem_mem h1) _ (List.getElem_mem h2)]; exact hz i h1 h2
  · rw [h _ (List.getElem_mem h1) _ (List.getElem_mem h2)]; exact hz i h1 h2
theorem all2_refl {α : Type} {f : α → α → Bool} {L : List α} (h : ∀ x ∈ L, f x x = true) : all2 f L L = true :=
  all2_iff.2 ⟨rfl, fun i h1 h2 => h _ (List.getElem_mem h1)⟩
theorem all2_trans {α : Type} {f : α → α → Bool} {L M N : List α} (h : ∀ x y z, f x y = true → f y z = true → f x z = true) (h1 : all2 f L M = true) (h2 : all2 f M N = true) : all2 f L N = true := by
  rw [all2_iff] at *
  exact ⟨h1.1.trans h2.1, fun i a b => h _ _ _ (h1.2 i a (by omega)) (h2.2 i (by omega) b)⟩
theorem all2_anti {α : Type} {f g : α → α → Bool} {L M : List α} (h : ∀ x y, f x y = true → f y x = true → g x y = true) (h1 : all2 f L M = true) (h2 : all2 f M L = true) : all2 g L M = true := by
  rw [all2_iff] at *
  exact ⟨h1.1, fun i a b => h _ _ (h1.2 i a b) (h2.2 i b a)⟩
theorem geL_parts {a b : Int} (h : geL a b = true) : (0 ≤ a ∧ a ≤ 4) ∧ (0 ≤ b ∧ b ≤ 4) ∧ covL a b = true := by
  unfold geL ordL at h
  simp only [Bool.and_eq_true, decide_eq_true_eq] at h
  exact ⟨by omega, by omega, h.2⟩
theorem five {a : Int} (h : 0 ≤ a ∧ a ≤ 4) : a = 0 ∨ a = 1 ∨ a = 2 ∨ a = 3 ∨ a = 4 := by omega
theorem geL_trans {a b c : Int} (h : geL a b = true) (k : geL b c = true) : geL a c = true := by
  obtain ⟨ha, hb, h1⟩ := geL_parts h
  obtain ⟨_, hc, h2⟩ := geL_parts k
  rcases five ha with rfl | rfl | rfl | rfl | rfl <;> rcases five hb with rfl | rfl | rfl | rfl | rfl <;> (first | (exact absurd h (by decide)) | (rcases five hc with rfl | rfl | rfl | rfl | rfl <;> first | decide | exact absurd k (by decide)))
theorem geL_anti {a b : Int} (h : geL a b = true) (k : geL b a = true) : a = b := by
  obtain ⟨ha, hb, _⟩ := geL_parts h
  rcases five ha with rfl | rfl | rfl | rfl | rfl <;> rcases five hb with rfl | rfl | rfl | rfl | rfl <;> (first | rfl | exact absurd h (by decide) | exact absurd k (by decide))
theorem geL_refl {a : Int} (h : 0 ≤ a ∧ a ≤ 4) : geL a a = true := by rcases five h with rfl | rfl | rfl | rfl | rfl <;> decide
theorem geO_parts {x y : LOp} : geO x y = true ↔ geL x.o y.o = true ∧ x.k = y.k ∧ x.l = y.l ∧ x.v = y.v ∧ x.w = y.w := by
  unfold geO; simp only [Bool.and_eq_true, decide_eq_true_eq]
theorem geO_trans (x y z : LOp) (h : geO x y = true) (k : geO y z = true) : geO x z = true := by
  rw [geO_parts] at *
  exact ⟨geL_trans h.1 k.1, h.2.1.trans k.2.1, h.2.2.1.trans k.2.2.1, h.2.2.2.1.trans k.2.2.2.1, h.2.2.2.2.trans k.2.2.2.2⟩
theorem geO_anti (x y : LOp) (h : geO x y = true) (k : geO y x = true) : eqO x y = true := by
  rw [geO_parts] at *
  unfold eqO
  simp only [Bool.and_eq_true, decide_eq_true_eq]
  exact ⟨h.2.1, h.2.2.1, h.2.2.2.1, h.2.2.2.2, geL_anti h.1 k.1⟩
theorem ok_ord {x : LOp} (h : okL x = true) : 0 ≤ x.o ∧ x.o ≤ 4 := by
  unfold okL mayL at h
  simp only [Bool.and_eq_true, decide_eq_true_eq] at h
  exact h.1.1.2
theorem geO_refl {x : LOp} (h : okL x = true) : geO x x = true := geO_parts.2 ⟨geL_refl (ok_ord h), rfl, rfl, rfl, rfl⟩
theorem check_ok {P : List (List LOp)} (h : checkL P = 0) : ∀ r ∈ P, ∀ x ∈ r, okL x = true := by
  unfold checkL at h
  split at h
  · simp at h
  split at h
  · simp at h
  split at h
  · rename_i hall
    rw [List.all_eq_true] at hall
    intro r hr x hx
    exact hall _ (List.mem_flatten.2 ⟨r, hr, hx⟩)
  · simp at h
theorem atL_one {P Q : List (List LOp)} (h : (atL P Q).1 = true) : checkL P = 0 ∧ checkL Q = 0 ∧ all2 (all2 geO) P Q = true := by
  unfold atL at h
  split at h
  · split at h
    · rename_i h1 h2; exact ⟨h1, h2, h⟩
    · simp at h
  · simp at h
theorem atL_self (P : List (List LOp)) : ((atL P P).1 == ((atL P P).2 == 0)) = true := by
  unfold atL
  split
  · rename_i h
    rw [all2_refl (fun r hr => all2_refl (fun x hx => geO_refl (check_ok h r hr x hx)))]
    rfl
  · rename_i h
    have : (checkL P == 0) = false := by simpa using h
    simp [this]
theorem eq_self (P : List (List LOp)) : all2 (all2 eqO) P P = true := all2_refl (fun r _ => all2_refl (fun x _ => by unfold eqO; simp))
theorem atL_trans {P Q R : List (List LOp)} (h : (atL P Q).1 = true) (k : (atL Q R).1 = true) : (atL P R).1 = true := by
  obtain ⟨a1, a2, a3⟩ := atL_one h
  obtain ⟨_, b2, b3⟩ := atL_one k
  unfold atL
  rw [if_pos a1, if_pos b2]
  exact all2_trans (fun _ _ _ => all2_trans geO_trans) a3 b3
theorem atL_anti {P Q : List (List LOp)} (h : (atL P Q).1 = true) (k : (atL Q P).1 = true) : all2 (all2 eqO) P Q = true := by
  obtain ⟨_, _, a3⟩ := atL_one h
  obtain ⟨_, _, b3⟩ := atL_one k
  exact all2_anti (fun _ _ => all2_anti geO_anti) a3 b3
end Go.Proofs.Ytgfbgbclpeihdaa.Li
