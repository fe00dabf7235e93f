/- Which orders are at least as strong as which, and the bounds of two, at every two numbers; no condition. -/
import Derived.Test.YtjiblcngjfbcmaaPOrderComparesx2
import Derived.KernelRfl
namespace Go.Proofs.Ytjiblcngjfbcmaa.Pure
open Go.RowKit Go.Proofs.Ytjiblcngjfbcmaa.POrderCompares Go.Proofs.YtjiblcngjfbcmaaW.PrintWords Go.Proofs.YtjiblcngjfbcmaaW.PrintLast

theorem isO_out (x : Int) (h : ¬(0 ≤ x ∧ x < 5)) : order_isOrder.f x = some false := by
  unfold order_isOrder.f
  by_cases h0 : 0 ≤ x
  · rw [if_pos h0]; simp; omega
  · rw [if_neg h0]
theorem isO_in (x : Int) (h : 0 ≤ x ∧ x < 5) : order_isOrder.f x = some true := by
  unfold order_isOrder.f
  rw [if_pos h.1]; simp; omega
theorem Is_out (x : Int) (h : ¬(0 ≤ x ∧ x < 5)) : locklessref02_Is.f x = some false := by
  unfold locklessref02_Is.f
  by_cases h0 : 0 ≤ x
  · rw [if_pos h0]; simp; omega
  · rw [if_neg h0]
theorem Is_in (x : Int) (h : 0 ≤ x ∧ x < 5) : locklessref02_Is.f x = some true := by
  unfold locklessref02_Is.f
  rw [if_pos h.1]; simp; omega
theorem five (x : Int) (h : 0 ≤ x ∧ x < 5) : x = 0 ∨ x = 1 ∨ x = 2 ∨ x = 3 ∨ x = 4 := by omega
theorem one_some (a m : Int) (h0 : 0 ≤ m) (h1 : m < 100) : ∃ v, locklesslaw02_one.f a m = some v := by
  unfold locklesslaw02_one.f
  rw [if_neg (by simp only [IntKind.wrap, IntKind.signed, IntKind.bits, wrap64, Bool.false_and]; simp; omega)]
  exact ⟨_, rfl⟩

theorem Join_out (x y : Int) (h : ¬(0 ≤ x ∧ x < 5) ∨ ¬(0 ≤ y ∧ y < 5)) (k : Nat) : order_Join.f (k + 1) x y = some (0, 1) := by
  unfold order_Join.f
  by_cases hx : 0 ≤ x ∧ x < 5
  · rw [isO_in x hx, isO_out y (h.resolve_left (fun g => g hx))]; simp [order_Join.j0]
  · rw [isO_out x hx]; simp [order_Join.j0]
theorem Meet_out (x y : Int) (h : ¬(0 ≤ x ∧ x < 5) ∨ ¬(0 ≤ y ∧ y < 5)) (k : Nat) : order_Meet.f (k + 1) x y = some (0, 1) := by
  unfold order_Meet.f
  by_cases hx : 0 ≤ x ∧ x < 5
  · rw [isO_in x hx, isO_out y (h.resolve_left (fun g => g hx))]; simp [order_Meet.j0]
  · rw [isO_out x hx]; simp [order_Meet.j0]
theorem AtLeast_out (x y : Int) (h : ¬(0 ≤ x ∧ x < 5) ∨ ¬(0 ≤ y ∧ y < 5)) : order_AtLeast.f x y = some (false, 1) := by
  unfold order_AtLeast.f
  by_cases hx : 0 ≤ x ∧ x < 5
  · rw [isO_in x hx, isO_out y (h.resolve_left (fun g => g hx))]; simp
  · rw [isO_out x hx]; simp
theorem out_round (a b x y r : Int) (hr : r < 2) (h : ¬(0 ≤ x ∧ x < 5) ∨ ¬(0 ≤ y ∧ y < 5)) (k : Nat) : locklesslaw02_OrderCompares.l0 (k + 3) a b x y r = locklesslaw02_OrderCompares.l0 (k + 1) a b a b (wrap64 (r + 1)) := by
  rw [locklesslaw02_OrderCompares.l0, if_pos hr, AtLeast_out x y h, Join_out x y h, Meet_out x y h]
  simp only [Option.bind_some]
  by_cases hx : 0 ≤ x ∧ x < 5
  · rw [Is_in x hx, Is_out y (h.resolve_left (fun g => g hx))]; simp [locklesslaw02_OrderCompares.j1]
  · rw [Is_out x hx]; simp [locklesslaw02_OrderCompares.j1]
set_option maxRecDepth 100000 in
theorem in_round (a b x y r : Int) (hr : r = 0 ∨ r = 1) (hx : 0 ≤ x ∧ x < 5) (hy : 0 ≤ y ∧ y < 5) (k : Nat) (hk : k = 37 ∨ k = 35) : locklesslaw02_OrderCompares.l0 (k + 3) a b x y r = locklesslaw02_OrderCompares.l0 (k + 1) a b a b (wrap64 (r + 1)) := by
  rcases five x hx with rfl | rfl | rfl | rfl | rfl <;> rcases five y hy with rfl | rfl | rfl | rfl | rfl <;> rcases hr with rfl | rfl <;> rcases hk with rfl | rfl <;> kernel_rfl
theorem each_round (a b x y r : Int) (hr : r = 0 ∨ r = 1) (k : Nat) (hk : k = 37 ∨ k = 35) : locklesslaw02_OrderCompares.l0 (k + 3) a b x y r = locklesslaw02_OrderCompares.l0 (k + 1) a b a b (wrap64 (r + 1)) := by
  by_cases hx : 0 ≤ x ∧ x < 5
  · by_cases hy : 0 ≤ y ∧ y < 5
    · exact in_round a b x y r hr hx hy k hk
    · exact out_round a b x y r (by omega) (.inr hy) k
  · exact out_round a b x y r (by omega) (.inl hx) k
theorem OrderCompares : locklesslaw02_OrderCompares.Pure := by
  intro a0 a1 _ _
  refine ⟨40, ?_⟩
  unfold locklesslaw02_OrderCompares.f
  have hw : locklesslaw02_awake.f 40 = some true := by kernel_rfl
  obtain ⟨v0, e0⟩ := one_some a0 4 (by decide) (by decide)
  obtain ⟨v1, e1⟩ := one_some a1 4 (by decide) (by decide)
  rw [hw, e0, e1]
  simp only [Option.bind_some, if_true]
  rw [each_round a0 a1 v0 v1 0 (.inl rfl) 37 (.inl rfl), show wrap64 (0 + 1) = 1 from by unfold wrap64; rfl, each_round a0 a1 a0 a1 1 (.inr rfl) 35 (.inr rfl), show wrap64 (1 + 1) = 2 from by unfold wrap64; rfl]
  rfl

end Go.Proofs.Ytjiblcngjfbcmaa.Pure
