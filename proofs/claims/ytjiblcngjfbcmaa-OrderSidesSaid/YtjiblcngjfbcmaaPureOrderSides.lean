/- Which orders acquire and which release, at every number; no condition. -/
import Derived.Test.YtjiblcngjfbcmaaPOrderSidesx2
import Derived.KernelRfl
namespace Go.Proofs.Ytjiblcngjfbcmaa.Pure
open Go.RowKit Go.Proofs.Ytjiblcngjfbcmaa.POrderSides Go.Proofs.YtjiblcngjfbcmaaW.PrintWords Go.Proofs.YtjiblcngjfbcmaaW.PrintLast

theorem isO_out (x : Int) (h : ¬(0 ≤ x ∧ x < 5)) : order_isOrder.f x = some false := by
  unfold order_isOrder.f
  by_cases h0 : 0 ≤ x
  · rw [if_pos h0]; simp; omega
  · rw [if_neg h0]
theorem isO_in (x : Int) (h : 0 ≤ x ∧ x < 5) : order_isOrder.f x = some true := by
  unfold order_isOrder.f
  rw [if_pos h.1]; simp; omega
theorem Is_out (x : Int) (h : ¬(0 ≤ x ∧ x < 5)) : locklessref02_Is.f x = some false := by
  unfold locklessref02_Is.f
  by_cases h0 : 0 ≤ x
  · rw [if_pos h0]; simp; omega
  · rw [if_neg h0]
theorem Is_in (x : Int) (h : 0 ≤ x ∧ x < 5) : locklessref02_Is.f x = some true := by
  unfold locklessref02_Is.f
  rw [if_pos h.1]; simp; omega
theorem five (x : Int) (h : 0 ≤ x ∧ x < 5) : x = 0 ∨ x = 1 ∨ x = 2 ∨ x = 3 ∨ x = 4 := by omega

set_option maxRecDepth 100000 in
theorem OrderSides : locklesslaw02_OrderSides.Pure := by
  intro a0 _
  refine ⟨20, ?_⟩
  by_cases h : 0 ≤ a0 ∧ a0 < 5
  · rcases five a0 h with rfl | rfl | rfl | rfl | rfl <;> kernel_rfl
  · unfold locklesslaw02_OrderSides.f
    have hw : locklesslaw02_awake.f 20 = some true := by kernel_rfl
    rw [hw]
    simp [order_Acquires.f, order_Releases.f, isO_out a0 h, Is_out a0 h]

end Go.Proofs.Ytjiblcngjfbcmaa.Pure
