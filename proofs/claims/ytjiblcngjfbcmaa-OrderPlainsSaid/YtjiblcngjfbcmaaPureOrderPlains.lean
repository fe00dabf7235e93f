/- An access without strong keeps what it acquires and releases, at each kind and order; no condition. -/
import Derived.Test.YtjiblcngjfbcmaaPOrderPlainsx2
import Derived.KernelRfl
namespace Go.Proofs.Ytjiblcngjfbcmaa.Pure
open Go.RowKit Go.Proofs.Ytjiblcngjfbcmaa.POrderPlains Go.Proofs.YtjiblcngjfbcmaaW.PrintWords Go.Proofs.YtjiblcngjfbcmaaW.PrintLast

theorem tmod_range (a m : Int) (hm : 0 < m) (hm2 : m < 100) : 0 ≤ wrap64 (Int.tmod (IntKind.u64.wrap a) m) ∧ wrap64 (Int.tmod (IntKind.u64.wrap a) m) < m := by
  have h0 : 0 ≤ IntKind.u64.wrap a := by
    simp only [IntKind.wrap, IntKind.signed, IntKind.bits, Bool.false_and]
    exact Int.emod_nonneg _ (by decide)
  rw [Int.tmod_eq_emod_of_nonneg h0]
  have h1 := Int.emod_nonneg (IntKind.u64.wrap a) (Int.ne_of_gt hm)
  have h2 := Int.emod_lt_of_pos (IntKind.u64.wrap a) hm
  unfold wrap64
  omega

set_option maxRecDepth 100000 in
theorem OrderPlains : locklesslaw02_OrderPlains.Pure := by
  intro a0 a1 _ _
  refine ⟨40, ?_⟩
  unfold locklesslaw02_OrderPlains.f
  have h0 := tmod_range a0 5 (by decide) (by decide)
  have h1 := tmod_range a1 5 (by decide) (by decide)
  generalize wrap64 (Int.tmod (IntKind.u64.wrap a0) 5) = x at h0 ⊢
  generalize wrap64 (Int.tmod (IntKind.u64.wrap a1) 5) = y at h1 ⊢
  have m0 : x ∈ ([0, 1, 2, 3, 4] : List Int) := by simp; omega
  have m1 : y ∈ ([0, 1, 2, 3, 4] : List Int) := by simp; omega
  clear h0 h1
  revert y
  revert x
  decide +kernel

end Go.Proofs.Ytjiblcngjfbcmaa.Pure
