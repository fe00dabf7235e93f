/- Which orders each kind of operation may have, at every two numbers; no condition. -/
import Derived.Test.YtjiblcngjfbcmaaPOrderMayx2
import Derived.KernelRfl
namespace Go.Proofs.Ytjiblcngjfbcmaa.Pure
open Go.RowKit Go.Proofs.Ytjiblcngjfbcmaa.POrderMay Go.Proofs.YtjiblcngjfbcmaaW.PrintWords Go.Proofs.YtjiblcngjfbcmaaW.PrintLast

theorem isO_out (x : Int) (h : ¬(0 ≤ x ∧ x < 5)) : order_isOrder.f x = some false := by
  unfold order_isOrder.f
  by_cases h0 : 0 ≤ x
  · rw [if_pos h0]; simp; omega
  · rw [if_neg h0]
theorem isO_in (x : Int) (h : 0 ≤ x ∧ x < 5) : order_isOrder.f x = some true := by
  unfold order_isOrder.f
  rw [if_pos h.1]; simp; omega
theorem Is_out (x : Int) (h : ¬(0 ≤ x ∧ x < 5)) : locklessref02_Is.f x = some false := by
  unfold locklessref02_Is.f
  by_cases h0 : 0 ≤ x
  · rw [if_pos h0]; simp; omega
  · rw [if_neg h0]
theorem Is_in (x : Int) (h : 0 ≤ x ∧ x < 5) : locklessref02_Is.f x = some true := by
  unfold locklessref02_Is.f
  rw [if_pos h.1]; simp; omega
theorem five (x : Int) (h : 0 ≤ x ∧ x < 5) : x = 0 ∨ x = 1 ∨ x = 2 ∨ x = 3 ∨ x = 4 := by omega
theorem one_some (a m : Int) (h0 : 0 ≤ m) (h1 : m < 100) : ∃ v, locklesslaw02_one.f a m = some v := by
  unfold locklesslaw02_one.f
  rw [if_neg (by simp only [IntKind.wrap, IntKind.signed, IntKind.bits, wrap64, Bool.false_and]; simp; omega)]
  exact ⟨_, rfl⟩
theorem Kind_out (x : Int) (h : ¬(0 ≤ x ∧ x < 6)) : locklessref02_Kind.f x = some false := by
  unfold locklessref02_Kind.f
  by_cases h0 : 0 ≤ x
  · rw [if_pos h0]; simp; omega
  · rw [if_neg h0]
theorem Kind_in (x : Int) (h : 0 ≤ x ∧ x < 6) : locklessref02_Kind.f x = some true := by
  unfold locklessref02_Kind.f
  rw [if_pos h.1]; simp; omega
theorem six (x : Int) (h : 0 ≤ x ∧ x < 6) : x = 0 ∨ x = 1 ∨ x = 2 ∨ x = 3 ∨ x = 4 ∨ x = 5 := by omega
theorem May_outx (x y : Int) (h : ¬(0 ≤ x ∧ x < 6)) : order_May.f x y = some (false, 1) := by
  unfold order_May.f
  by_cases h0 : x < 0
  · rw [if_pos h0]
  · rw [if_neg h0, if_pos (by omega)]
theorem May_outy (x y : Int) (h : ¬(0 ≤ y ∧ y < 5)) : order_May.f x y = some (false, 1) := by
  unfold order_May.f
  rw [isO_out y h]
  split
  · rfl
  · split <;> simp

theorem All_outx (x : Int) (h : ¬(0 ≤ x ∧ x < 6)) (k : Nat) : order_All.f (k + 1) x = some ([], 1) := by
  unfold order_All.f
  by_cases h0 : x < 0
  · rw [if_pos h0]; simp [order_All.j0]
  · rw [if_neg h0]
    have h1 : decide (x ≥ 6) = true := by simp; omega
    rw [h1]; simp [order_All.j0]
theorem out_roundx (a b x y r : Int) (hr : r < 2) (h : ¬(0 ≤ x ∧ x < 6)) (k : Nat) : locklesslaw02_OrderMay.l0 (k + 4) a b x y r = locklesslaw02_OrderMay.l0 (k + 1) a b a b (wrap64 (r + 1)) := by
  rw [locklesslaw02_OrderMay.l0, if_pos hr, May_outx x y h, All_outx x h, Kind_out x h]
  simp [locklesslaw02_OrderMay.j1, locklesslaw02_OrderMay.j2, Kind_out x h]
set_option maxRecDepth 100000 in
theorem out_roundy (a b x y r : Int) (hr : r < 2) (hx : 0 ≤ x ∧ x < 6) (h : ¬(0 ≤ y ∧ y < 5)) (k : Nat) (hk : k = 36 ∨ k = 33) : locklesslaw02_OrderMay.l0 (k + 4) a b x y r = locklesslaw02_OrderMay.l0 (k + 1) a b a b (wrap64 (r + 1)) := by
  rw [locklesslaw02_OrderMay.l0, if_pos hr, May_outy x y h]
  have hs : ∃ l, order_All.f (k + 3) x = some (l, 0) ∧ locklessref02_All.f (k + 3) x = some l ∧ locklesslaw02_same.f (k + 3) l l = some true := by
    rcases six x hx with rfl | rfl | rfl | rfl | rfl | rfl
    · rcases hk with rfl | rfl <;> exact ⟨[0, 1, 4], by kernel_rfl, by kernel_rfl, by kernel_rfl⟩
    · rcases hk with rfl | rfl <;> exact ⟨[0, 2, 4], by kernel_rfl, by kernel_rfl, by kernel_rfl⟩
    · rcases hk with rfl | rfl <;> exact ⟨[0, 1, 2, 3, 4], by kernel_rfl, by kernel_rfl, by kernel_rfl⟩
    · rcases hk with rfl | rfl <;> exact ⟨[0, 1, 2, 3, 4], by kernel_rfl, by kernel_rfl, by kernel_rfl⟩
    · rcases hk with rfl | rfl <;> exact ⟨[0, 1, 2, 3, 4], by kernel_rfl, by kernel_rfl, by kernel_rfl⟩
    · rcases hk with rfl | rfl <;> exact ⟨[1, 2, 3, 4], by kernel_rfl, by kernel_rfl, by kernel_rfl⟩
  obtain ⟨l, e1, e2, e3⟩ := hs
  rw [e1, Kind_in x hx]
  simp only [Option.bind_some, if_true]
  rw [e2]
  simp only [Option.bind_some]
  rw [e3]
  simp [locklesslaw02_OrderMay.j1, locklesslaw02_OrderMay.j2, Kind_in x hx, Is_out y h]
set_option maxRecDepth 100000 in
theorem in_round (a b x y r : Int) (hr : r = 0 ∨ r = 1) (hx : 0 ≤ x ∧ x < 6) (hy : 0 ≤ y ∧ y < 5) (k : Nat) (hk : k = 36 ∨ k = 33) : locklesslaw02_OrderMay.l0 (k + 4) a b x y r = locklesslaw02_OrderMay.l0 (k + 1) a b a b (wrap64 (r + 1)) := by
  rcases six x hx with rfl | rfl | rfl | rfl | rfl | rfl <;> rcases five y hy with rfl | rfl | rfl | rfl | rfl <;> rcases hr with rfl | rfl <;> rcases hk with rfl | rfl <;> kernel_rfl
theorem each_round (a b x y r : Int) (hr : r = 0 ∨ r = 1) (k : Nat) (hk : k = 36 ∨ k = 33) : locklesslaw02_OrderMay.l0 (k + 4) a b x y r = locklesslaw02_OrderMay.l0 (k + 1) a b a b (wrap64 (r + 1)) := by
  by_cases hx : 0 ≤ x ∧ x < 6
  · by_cases hy : 0 ≤ y ∧ y < 5
    · exact in_round a b x y r hr hx hy k hk
    · exact out_roundy a b x y r (by omega) hx hy k hk
  · exact out_roundx a b x y r (by omega) hx k
theorem OrderMay : locklesslaw02_OrderMay.Pure := by
  intro a0 a1 _ _
  refine ⟨40, ?_⟩
  unfold locklesslaw02_OrderMay.f
  have hw : locklesslaw02_awake.f 40 = some true := by kernel_rfl
  obtain ⟨v0, e0⟩ := one_some a0 5 (by decide) (by decide)
  obtain ⟨v1, e1⟩ := one_some a1 4 (by decide) (by decide)
  rw [hw, e0, e1]
  simp only [Option.bind_some, if_true]
  rw [each_round a0 a1 v0 v1 0 (.inl rfl) 36 (.inl rfl), show wrap64 (0 + 1) = 1 from by unfold wrap64; rfl, each_round a0 a1 a0 a1 1 (.inr rfl) 33 (.inr rfl), show wrap64 (1 + 1) = 2 from by unfold wrap64; rfl]
  rfl

end Go.Proofs.Ytjiblcngjfbcmaa.Pure
