/- The next weaker orders, and what an access has without strong, at every two numbers; no condition. -/
import Derived.Test.YtjiblcngjfbcmaaPOrderWeakerx4
import Derived.KernelRfl
namespace Go.Proofs.Ytjiblcngjfbcmaa.Pure
open Go.RowKit Go.Proofs.Ytjiblcngjfbcmaa.POrderWeaker Go.Proofs.YtjiblcngjfbcmaaW.PrintWords Go.Proofs.YtjiblcngjfbcmaaW.PrintLast

theorem isO_out (x : Int) (h : ¬(0 ≤ x ∧ x < 5)) : order_isOrder.f x = some false := by
  unfold order_isOrder.f
  by_cases h0 : 0 ≤ x
  · rw [if_pos h0]; simp; omega
  · rw [if_neg h0]
theorem isO_in (x : Int) (h : 0 ≤ x ∧ x < 5) : order_isOrder.f x = some true := by
  unfold order_isOrder.f
  rw [if_pos h.1]; simp; omega
theorem Is_out (x : Int) (h : ¬(0 ≤ x ∧ x < 5)) : locklessref02_Is.f x = some false := by
  unfold locklessref02_Is.f
  by_cases h0 : 0 ≤ x
  · rw [if_pos h0]; simp; omega
  · rw [if_neg h0]
theorem Is_in (x : Int) (h : 0 ≤ x ∧ x < 5) : locklessref02_Is.f x = some true := by
  unfold locklessref02_Is.f
  rw [if_pos h.1]; simp; omega
theorem five (x : Int) (h : 0 ≤ x ∧ x < 5) : x = 0 ∨ x = 1 ∨ x = 2 ∨ x = 3 ∨ x = 4 := by omega
theorem one_some (a m : Int) (h0 : 0 ≤ m) (h1 : m < 100) : ∃ v, locklesslaw02_one.f a m = some v := by
  unfold locklesslaw02_one.f
  rw [if_neg (by simp only [IntKind.wrap, IntKind.signed, IntKind.bits, wrap64, Bool.false_and]; simp; omega)]
  exact ⟨_, rfl⟩
theorem Kind_out (x : Int) (h : ¬(0 ≤ x ∧ x < 6)) : locklessref02_Kind.f x = some false := by
  unfold locklessref02_Kind.f
  by_cases h0 : 0 ≤ x
  · rw [if_pos h0]; simp; omega
  · rw [if_neg h0]
theorem Kind_in (x : Int) (h : 0 ≤ x ∧ x < 6) : locklessref02_Kind.f x = some true := by
  unfold locklessref02_Kind.f
  rw [if_pos h.1]; simp; omega
theorem six (x : Int) (h : 0 ≤ x ∧ x < 6) : x = 0 ∨ x = 1 ∨ x = 2 ∨ x = 3 ∨ x = 4 ∨ x = 5 := by omega
theorem May_outx (x y : Int) (h : ¬(0 ≤ x ∧ x < 6)) : order_May.f x y = some (false, 1) := by
  unfold order_May.f
  by_cases h0 : x < 0
  · rw [if_pos h0]
  · rw [if_neg h0, if_pos (by omega)]
theorem May_outy (x y : Int) (h : ¬(0 ≤ y ∧ y < 5)) : order_May.f x y = some (false, 1) := by
  unfold order_May.f
  rw [isO_out y h]
  split
  · rfl
  · split <;> simp

theorem Weaker_out (x y : Int) (h : ¬(0 ≤ x ∧ x < 6) ∨ ¬(0 ≤ y ∧ y < 5)) (k : Nat) : order_Weaker.f (k + 1) x y = some ([], 1) := by
  have hm : order_May.f x y = some (false, 1) := h.elim (May_outx x y) (May_outy x y)
  unfold order_Weaker.f
  rw [hm]; simp [order_Weaker.j0]
theorem Plain_out (x y : Int) (h : ¬(0 ≤ x ∧ x < 6) ∨ ¬(0 ≤ y ∧ y < 5)) (k : Nat) : order_Plain.f (k + 1) x y = some (0, 1) := by
  have hm : order_May.f x y = some (false, 1) := h.elim (May_outx x y) (May_outy x y)
  unfold order_Plain.f
  rw [hm]; simp [order_Plain.j0]
theorem out_round (a b x y r : Int) (hr : r < 2) (h : ¬(0 ≤ x ∧ x < 6) ∨ ¬(0 ≤ y ∧ y < 5)) (k : Nat) : locklesslaw02_OrderWeaker.l0 (k + 4) a b x y r = locklesslaw02_OrderWeaker.l0 (k + 2) a b a b (wrap64 (r + 1)) := by
  rw [locklesslaw02_OrderWeaker.l0, if_pos hr, Weaker_out x y h, Plain_out x y h]
  simp only [Option.bind_some]
  by_cases hx : 0 ≤ x ∧ x < 6
  · rw [Kind_in x hx, Is_out y (h.resolve_left (fun g => g hx))]; simp [locklesslaw02_OrderWeaker.j1]
  · rw [Kind_out x hx]; simp [locklesslaw02_OrderWeaker.j1]
/-- What the two weaker lists and the plain orders are, at one kind and order: not to be had, or the same list and the same order. -/
def Facts (k : Nat) (x y : Int) : Prop :=
  (order_Weaker.f (k + 3) x y = some ([], 1) ∧ order_Plain.f (k + 3) x y = some (0, 1) ∧ locklessref02_May.f x y = some false) ∨
  ∃ l p e, order_Weaker.f (k + 3) x y = some (l, 0) ∧ order_Plain.f (k + 3) x y = some (p, e) ∧ locklessref02_May.f x y = some true ∧ locklessref02_Weaker.f (k + 2) x y = some l ∧ locklesslaw02_same.f (k + 2) l l = some true ∧
    (x ≠ 5 → locklessref02_Plain.f x y = some p ∧ e = 0) ∧ (x = 5 → p = 0 ∧ e = 1)
set_option maxRecDepth 100000
theorem in_facts96 (x y : Int) (hx : 0 ≤ x ∧ x < 6) (hy : 0 ≤ y ∧ y < 5) : Facts 96 x y := by
  rcases six x hx with rfl | rfl | rfl | rfl | rfl | rfl <;> rcases five y hy with rfl | rfl | rfl | rfl | rfl
  · exact .inr ⟨[], 0, 0, by kernel_rfl, by kernel_rfl, by kernel_rfl, by kernel_rfl, by kernel_rfl, fun _ => ⟨by kernel_rfl, rfl⟩, fun h => absurd h (by decide)⟩
  · exact .inr ⟨[0], 1, 0, by kernel_rfl, by kernel_rfl, by kernel_rfl, by kernel_rfl, by kernel_rfl, fun _ => ⟨by kernel_rfl, rfl⟩, fun h => absurd h (by decide)⟩
  · exact .inl ⟨by kernel_rfl, by kernel_rfl, by kernel_rfl⟩
  · exact .inl ⟨by kernel_rfl, by kernel_rfl, by kernel_rfl⟩
  · exact .inr ⟨[1], 1, 0, by kernel_rfl, by kernel_rfl, by kernel_rfl, by kernel_rfl, by kernel_rfl, fun _ => ⟨by kernel_rfl, rfl⟩, fun h => absurd h (by decide)⟩
  · exact .inr ⟨[], 0, 0, by kernel_rfl, by kernel_rfl, by kernel_rfl, by kernel_rfl, by kernel_rfl, fun _ => ⟨by kernel_rfl, rfl⟩, fun h => absurd h (by decide)⟩
  · exact .inl ⟨by kernel_rfl, by kernel_rfl, by kernel_rfl⟩
  · exact .inr ⟨[0], 2, 0, by kernel_rfl, by kernel_rfl, by kernel_rfl, by kernel_rfl, by kernel_rfl, fun _ => ⟨by kernel_rfl, rfl⟩, fun h => absurd h (by decide)⟩
  · exact .inl ⟨by kernel_rfl, by kernel_rfl, by kernel_rfl⟩
  · exact .inr ⟨[2], 2, 0, by kernel_rfl, by kernel_rfl, by kernel_rfl, by kernel_rfl, by kernel_rfl, fun _ => ⟨by kernel_rfl, rfl⟩, fun h => absurd h (by decide)⟩
  · exact .inr ⟨[], 0, 0, by kernel_rfl, by kernel_rfl, by kernel_rfl, by kernel_rfl, by kernel_rfl, fun _ => ⟨by kernel_rfl, rfl⟩, fun h => absurd h (by decide)⟩
  · exact .inr ⟨[0], 1, 0, by kernel_rfl, by kernel_rfl, by kernel_rfl, by kernel_rfl, by kernel_rfl, fun _ => ⟨by kernel_rfl, rfl⟩, fun h => absurd h (by decide)⟩
  · exact .inr ⟨[0], 2, 0, by kernel_rfl, by kernel_rfl, by kernel_rfl, by kernel_rfl, by kernel_rfl, fun _ => ⟨by kernel_rfl, rfl⟩, fun h => absurd h (by decide)⟩
  · exact .inr ⟨[1, 2], 3, 0, by kernel_rfl, by kernel_rfl, by kernel_rfl, by kernel_rfl, by kernel_rfl, fun _ => ⟨by kernel_rfl, rfl⟩, fun h => absurd h (by decide)⟩
  · exact .inr ⟨[3], 3, 0, by kernel_rfl, by kernel_rfl, by kernel_rfl, by kernel_rfl, by kernel_rfl, fun _ => ⟨by kernel_rfl, rfl⟩, fun h => absurd h (by decide)⟩
  · exact .inr ⟨[], 0, 0, by kernel_rfl, by kernel_rfl, by kernel_rfl, by kernel_rfl, by kernel_rfl, fun _ => ⟨by kernel_rfl, rfl⟩, fun h => absurd h (by decide)⟩
  · exact .inr ⟨[0], 1, 0, by kernel_rfl, by kernel_rfl, by kernel_rfl, by kernel_rfl, by kernel_rfl, fun _ => ⟨by kernel_rfl, rfl⟩, fun h => absurd h (by decide)⟩
  · exact .inr ⟨[0], 2, 0, by kernel_rfl, by kernel_rfl, by kernel_rfl, by kernel_rfl, by kernel_rfl, fun _ => ⟨by kernel_rfl, rfl⟩, fun h => absurd h (by decide)⟩
  · exact .inr ⟨[1, 2], 3, 0, by kernel_rfl, by kernel_rfl, by kernel_rfl, by kernel_rfl, by kernel_rfl, fun _ => ⟨by kernel_rfl, rfl⟩, fun h => absurd h (by decide)⟩
  · exact .inr ⟨[3], 3, 0, by kernel_rfl, by kernel_rfl, by kernel_rfl, by kernel_rfl, by kernel_rfl, fun _ => ⟨by kernel_rfl, rfl⟩, fun h => absurd h (by decide)⟩
  · exact .inr ⟨[], 0, 0, by kernel_rfl, by kernel_rfl, by kernel_rfl, by kernel_rfl, by kernel_rfl, fun _ => ⟨by kernel_rfl, rfl⟩, fun h => absurd h (by decide)⟩
  · exact .inr ⟨[0], 1, 0, by kernel_rfl, by kernel_rfl, by kernel_rfl, by kernel_rfl, by kernel_rfl, fun _ => ⟨by kernel_rfl, rfl⟩, fun h => absurd h (by decide)⟩
  · exact .inr ⟨[0], 2, 0, by kernel_rfl, by kernel_rfl, by kernel_rfl, by kernel_rfl, by kernel_rfl, fun _ => ⟨by kernel_rfl, rfl⟩, fun h => absurd h (by decide)⟩
  · exact .inr ⟨[1, 2], 3, 0, by kernel_rfl, by kernel_rfl, by kernel_rfl, by kernel_rfl, by kernel_rfl, fun _ => ⟨by kernel_rfl, rfl⟩, fun h => absurd h (by decide)⟩
  · exact .inr ⟨[3], 3, 0, by kernel_rfl, by kernel_rfl, by kernel_rfl, by kernel_rfl, by kernel_rfl, fun _ => ⟨by kernel_rfl, rfl⟩, fun h => absurd h (by decide)⟩
  · exact .inl ⟨by kernel_rfl, by kernel_rfl, by kernel_rfl⟩
  · exact .inr ⟨[], 0, 1, by kernel_rfl, by kernel_rfl, by kernel_rfl, by kernel_rfl, by kernel_rfl, fun h => absurd rfl h, fun _ => ⟨rfl, rfl⟩⟩
  · exact .inr ⟨[], 0, 1, by kernel_rfl, by kernel_rfl, by kernel_rfl, by kernel_rfl, by kernel_rfl, fun h => absurd rfl h, fun _ => ⟨rfl, rfl⟩⟩
  · exact .inr ⟨[1, 2], 0, 1, by kernel_rfl, by kernel_rfl, by kernel_rfl, by kernel_rfl, by kernel_rfl, fun h => absurd rfl h, fun _ => ⟨rfl, rfl⟩⟩
  · exact .inr ⟨[3], 0, 1, by kernel_rfl, by kernel_rfl, by kernel_rfl, by kernel_rfl, by kernel_rfl, fun h => absurd rfl h, fun _ => ⟨rfl, rfl⟩⟩
theorem in_facts94 (x y : Int) (hx : 0 ≤ x ∧ x < 6) (hy : 0 ≤ y ∧ y < 5) : Facts 94 x y := by
  rcases six x hx with rfl | rfl | rfl | rfl | rfl | rfl <;> rcases five y hy with rfl | rfl | rfl | rfl | rfl
  · exact .inr ⟨[], 0, 0, by kernel_rfl, by kernel_rfl, by kernel_rfl, by kernel_rfl, by kernel_rfl, fun _ => ⟨by kernel_rfl, rfl⟩, fun h => absurd h (by decide)⟩
  · exact .inr ⟨[0], 1, 0, by kernel_rfl, by kernel_rfl, by kernel_rfl, by kernel_rfl, by kernel_rfl, fun _ => ⟨by kernel_rfl, rfl⟩, fun h => absurd h (by decide)⟩
  · exact .inl ⟨by kernel_rfl, by kernel_rfl, by kernel_rfl⟩
  · exact .inl ⟨by kernel_rfl, by kernel_rfl, by kernel_rfl⟩
  · exact .inr ⟨[1], 1, 0, by kernel_rfl, by kernel_rfl, by kernel_rfl, by kernel_rfl, by kernel_rfl, fun _ => ⟨by kernel_rfl, rfl⟩, fun h => absurd h (by decide)⟩
  · exact .inr ⟨[], 0, 0, by kernel_rfl, by kernel_rfl, by kernel_rfl, by kernel_rfl, by kernel_rfl, fun _ => ⟨by kernel_rfl, rfl⟩, fun h => absurd h (by decide)⟩
  · exact .inl ⟨by kernel_rfl, by kernel_rfl, by kernel_rfl⟩
  · exact .inr ⟨[0], 2, 0, by kernel_rfl, by kernel_rfl, by kernel_rfl, by kernel_rfl, by kernel_rfl, fun _ => ⟨by kernel_rfl, rfl⟩, fun h => absurd h (by decide)⟩
  · exact .inl ⟨by kernel_rfl, by kernel_rfl, by kernel_rfl⟩
  · exact .inr ⟨[2], 2, 0, by kernel_rfl, by kernel_rfl, by kernel_rfl, by kernel_rfl, by kernel_rfl, fun _ => ⟨by kernel_rfl, rfl⟩, fun h => absurd h (by decide)⟩
  · exact .inr ⟨[], 0, 0, by kernel_rfl, by kernel_rfl, by kernel_rfl, by kernel_rfl, by kernel_rfl, fun _ => ⟨by kernel_rfl, rfl⟩, fun h => absurd h (by decide)⟩
  · exact .inr ⟨[0], 1, 0, by kernel_rfl, by kernel_rfl, by kernel_rfl, by kernel_rfl, by kernel_rfl, fun _ => ⟨by kernel_rfl, rfl⟩, fun h => absurd h (by decide)⟩
  · exact .inr ⟨[0], 2, 0, by kernel_rfl, by kernel_rfl, by kernel_rfl, by kernel_rfl, by kernel_rfl, fun _ => ⟨by kernel_rfl, rfl⟩, fun h => absurd h (by decide)⟩
  · exact .inr ⟨[1, 2], 3, 0, by kernel_rfl, by kernel_rfl, by kernel_rfl, by kernel_rfl, by kernel_rfl, fun _ => ⟨by kernel_rfl, rfl⟩, fun h => absurd h (by decide)⟩
  · exact .inr ⟨[3], 3, 0, by kernel_rfl, by kernel_rfl, by kernel_rfl, by kernel_rfl, by kernel_rfl, fun _ => ⟨by kernel_rfl, rfl⟩, fun h => absurd h (by decide)⟩
  · exact .inr ⟨[], 0, 0, by kernel_rfl, by kernel_rfl, by kernel_rfl, by kernel_rfl, by kernel_rfl, fun _ => ⟨by kernel_rfl, rfl⟩, fun h => absurd h (by decide)⟩
  · exact .inr ⟨[0], 1, 0, by kernel_rfl, by kernel_rfl, by kernel_rfl, by kernel_rfl, by kernel_rfl, fun _ => ⟨by kernel_rfl, rfl⟩, fun h => absurd h (by decide)⟩
  · exact .inr ⟨[0], 2, 0, by kernel_rfl, by kernel_rfl, by kernel_rfl, by kernel_rfl, by kernel_rfl, fun _ => ⟨by kernel_rfl, rfl⟩, fun h => absurd h (by decide)⟩
  · exact .inr ⟨[1, 2], 3, 0, by kernel_rfl, by kernel_rfl, by kernel_rfl, by kernel_rfl, by kernel_rfl, fun _ => ⟨by kernel_rfl, rfl⟩, fun h => absurd h (by decide)⟩
  · exact .inr ⟨[3], 3, 0, by kernel_rfl, by kernel_rfl, by kernel_rfl, by kernel_rfl, by kernel_rfl, fun _ => ⟨by kernel_rfl, rfl⟩, fun h => absurd h (by decide)⟩
  · exact .inr ⟨[], 0, 0, by kernel_rfl, by kernel_rfl, by kernel_rfl, by kernel_rfl, by kernel_rfl, fun _ => ⟨by kernel_rfl, rfl⟩, fun h => absurd h (by decide)⟩
  · exact .inr ⟨[0], 1, 0, by kernel_rfl, by kernel_rfl, by kernel_rfl, by kernel_rfl, by kernel_rfl, fun _ => ⟨by kernel_rfl, rfl⟩, fun h => absurd h (by decide)⟩
  · exact .inr ⟨[0], 2, 0, by kernel_rfl, by kernel_rfl, by kernel_rfl, by kernel_rfl, by kernel_rfl, fun _ => ⟨by kernel_rfl, rfl⟩, fun h => absurd h (by decide)⟩
  · exact .inr ⟨[1, 2], 3, 0, by kernel_rfl, by kernel_rfl, by kernel_rfl, by kernel_rfl, by kernel_rfl, fun _ => ⟨by kernel_rfl, rfl⟩, fun h => absurd h (by decide)⟩
  · exact .inr ⟨[3], 3, 0, by kernel_rfl, by kernel_rfl, by kernel_rfl, by kernel_rfl, by kernel_rfl, fun _ => ⟨by kernel_rfl, rfl⟩, fun h => absurd h (by decide)⟩
  · exact .inl ⟨by kernel_rfl, by kernel_rfl, by kernel_rfl⟩
  · exact .inr ⟨[], 0, 1, by kernel_rfl, by kernel_rfl, by kernel_rfl, by kernel_rfl, by kernel_rfl, fun h => absurd rfl h, fun _ => ⟨rfl, rfl⟩⟩
  · exact .inr ⟨[], 0, 1, by kernel_rfl, by kernel_rfl, by kernel_rfl, by kernel_rfl, by kernel_rfl, fun h => absurd rfl h, fun _ => ⟨rfl, rfl⟩⟩
  · exact .inr ⟨[1, 2], 0, 1, by kernel_rfl, by kernel_rfl, by kernel_rfl, by kernel_rfl, by kernel_rfl, fun h => absurd rfl h, fun _ => ⟨rfl, rfl⟩⟩
  · exact .inr ⟨[3], 0, 1, by kernel_rfl, by kernel_rfl, by kernel_rfl, by kernel_rfl, by kernel_rfl, fun h => absurd rfl h, fun _ => ⟨rfl, rfl⟩⟩
theorem in_facts93 (x y : Int) (hx : 0 ≤ x ∧ x < 6) (hy : 0 ≤ y ∧ y < 5) : Facts 93 x y := by
  rcases six x hx with rfl | rfl | rfl | rfl | rfl | rfl <;> rcases five y hy with rfl | rfl | rfl | rfl | rfl
  · exact .inr ⟨[], 0, 0, by kernel_rfl, by kernel_rfl, by kernel_rfl, by kernel_rfl, by kernel_rfl, fun _ => ⟨by kernel_rfl, rfl⟩, fun h => absurd h (by decide)⟩
  · exact .inr ⟨[0], 1, 0, by kernel_rfl, by kernel_rfl, by kernel_rfl, by kernel_rfl, by kernel_rfl, fun _ => ⟨by kernel_rfl, rfl⟩, fun h => absurd h (by decide)⟩
  · exact .inl ⟨by kernel_rfl, by kernel_rfl, by kernel_rfl⟩
  · exact .inl ⟨by kernel_rfl, by kernel_rfl, by kernel_rfl⟩
  · exact .inr ⟨[1], 1, 0, by kernel_rfl, by kernel_rfl, by kernel_rfl, by kernel_rfl, by kernel_rfl, fun _ => ⟨by kernel_rfl, rfl⟩, fun h => absurd h (by decide)⟩
  · exact .inr ⟨[], 0, 0, by kernel_rfl, by kernel_rfl, by kernel_rfl, by kernel_rfl, by kernel_rfl, fun _ => ⟨by kernel_rfl, rfl⟩, fun h => absurd h (by decide)⟩
  · exact .inl ⟨by kernel_rfl, by kernel_rfl, by kernel_rfl⟩
  · exact .inr ⟨[0], 2, 0, by kernel_rfl, by kernel_rfl, by kernel_rfl, by kernel_rfl, by kernel_rfl, fun _ => ⟨by kernel_rfl, rfl⟩, fun h => absurd h (by decide)⟩
  · exact .inl ⟨by kernel_rfl, by kernel_rfl, by kernel_rfl⟩
  · exact .inr ⟨[2], 2, 0, by kernel_rfl, by kernel_rfl, by kernel_rfl, by kernel_rfl, by kernel_rfl, fun _ => ⟨by kernel_rfl, rfl⟩, fun h => absurd h (by decide)⟩
  · exact .inr ⟨[], 0, 0, by kernel_rfl, by kernel_rfl, by kernel_rfl, by kernel_rfl, by kernel_rfl, fun _ => ⟨by kernel_rfl, rfl⟩, fun h => absurd h (by decide)⟩
  · exact .inr ⟨[0], 1, 0, by kernel_rfl, by kernel_rfl, by kernel_rfl, by kernel_rfl, by kernel_rfl, fun _ => ⟨by kernel_rfl, rfl⟩, fun h => absurd h (by decide)⟩
  · exact .inr ⟨[0], 2, 0, by kernel_rfl, by kernel_rfl, by kernel_rfl, by kernel_rfl, by kernel_rfl, fun _ => ⟨by kernel_rfl, rfl⟩, fun h => absurd h (by decide)⟩
  · exact .inr ⟨[1, 2], 3, 0, by kernel_rfl, by kernel_rfl, by kernel_rfl, by kernel_rfl, by kernel_rfl, fun _ => ⟨by kernel_rfl, rfl⟩, fun h => absurd h (by decide)⟩
  · exact .inr ⟨[3], 3, 0, by kernel_rfl, by kernel_rfl, by kernel_rfl, by kernel_rfl, by kernel_rfl, fun _ => ⟨by kernel_rfl, rfl⟩, fun h => absurd h (by decide)⟩
  · exact .inr ⟨[], 0, 0, by kernel_rfl, by kernel_rfl, by kernel_rfl, by kernel_rfl, by kernel_rfl, fun _ => ⟨by kernel_rfl, rfl⟩, fun h => absurd h (by decide)⟩
  · exact .inr ⟨[0], 1, 0, by kernel_rfl, by kernel_rfl, by kernel_rfl, by kernel_rfl, by kernel_rfl, fun _ => ⟨by kernel_rfl, rfl⟩, fun h => absurd h (by decide)⟩
  · exact .inr ⟨[0], 2, 0, by kernel_rfl, by kernel_rfl, by kernel_rfl, by kernel_rfl, by kernel_rfl, fun _ => ⟨by kernel_rfl, rfl⟩, fun h => absurd h (by decide)⟩
  · exact .inr ⟨[1, 2], 3, 0, by kernel_rfl, by kernel_rfl, by kernel_rfl, by kernel_rfl, by kernel_rfl, fun _ => ⟨by kernel_rfl, rfl⟩, fun h => absurd h (by decide)⟩
  · exact .inr ⟨[3], 3, 0, by kernel_rfl, by kernel_rfl, by kernel_rfl, by kernel_rfl, by kernel_rfl, fun _ => ⟨by kernel_rfl, rfl⟩, fun h => absurd h (by decide)⟩
  · exact .inr ⟨[], 0, 0, by kernel_rfl, by kernel_rfl, by kernel_rfl, by kernel_rfl, by kernel_rfl, fun _ => ⟨by kernel_rfl, rfl⟩, fun h => absurd h (by decide)⟩
  · exact .inr ⟨[0], 1, 0, by kernel_rfl, by kernel_rfl, by kernel_rfl, by kernel_rfl, by kernel_rfl, fun _ => ⟨by kernel_rfl, rfl⟩, fun h => absurd h (by decide)⟩
  · exact .inr ⟨[0], 2, 0, by kernel_rfl, by kernel_rfl, by kernel_rfl, by kernel_rfl, by kernel_rfl, fun _ => ⟨by kernel_rfl, rfl⟩, fun h => absurd h (by decide)⟩
  · exact .inr ⟨[1, 2], 3, 0, by kernel_rfl, by kernel_rfl, by kernel_rfl, by kernel_rfl, by kernel_rfl, fun _ => ⟨by kernel_rfl, rfl⟩, fun h => absurd h (by decide)⟩
  · exact .inr ⟨[3], 3, 0, by kernel_rfl, by kernel_rfl, by kernel_rfl, by kernel_rfl, by kernel_rfl, fun _ => ⟨by kernel_rfl, rfl⟩, fun h => absurd h (by decide)⟩
  · exact .inl ⟨by kernel_rfl, by kernel_rfl, by kernel_rfl⟩
  · exact .inr ⟨[], 0, 1, by kernel_rfl, by kernel_rfl, by kernel_rfl, by kernel_rfl, by kernel_rfl, fun h => absurd rfl h, fun _ => ⟨rfl, rfl⟩⟩
  · exact .inr ⟨[], 0, 1, by kernel_rfl, by kernel_rfl, by kernel_rfl, by kernel_rfl, by kernel_rfl, fun h => absurd rfl h, fun _ => ⟨rfl, rfl⟩⟩
  · exact .inr ⟨[1, 2], 0, 1, by kernel_rfl, by kernel_rfl, by kernel_rfl, by kernel_rfl, by kernel_rfl, fun h => absurd rfl h, fun _ => ⟨rfl, rfl⟩⟩
  · exact .inr ⟨[3], 0, 1, by kernel_rfl, by kernel_rfl, by kernel_rfl, by kernel_rfl, by kernel_rfl, fun h => absurd rfl h, fun _ => ⟨rfl, rfl⟩⟩

theorem in_facts (k : Nat) (hk : k = 96 ∨ k = 94 ∨ k = 93) (x y : Int) (hx : 0 ≤ x ∧ x < 6) (hy : 0 ≤ y ∧ y < 5) : Facts k x y := by
  rcases hk with rfl | rfl | rfl
  · exact in_facts96 x y hx hy
  · exact in_facts94 x y hx hy
  · exact in_facts93 x y hx hy
theorem in_round (a b x y r : Int) (hr : r = 0 ∨ r = 1) (hx : 0 ≤ x ∧ x < 6) (hy : 0 ≤ y ∧ y < 5) (k : Nat) (hk : k = 96 ∨ k = 94 ∨ k = 93) : locklesslaw02_OrderWeaker.l0 (k + 4) a b x y r = locklesslaw02_OrderWeaker.l0 (k + 2) a b a b (wrap64 (r + 1)) ∨ locklesslaw02_OrderWeaker.l0 (k + 4) a b x y r = locklesslaw02_OrderWeaker.l0 (k + 1) a b a b (wrap64 (r + 1)) := by
  rcases in_facts k hk x y hx hy with ⟨e1, e2, e3⟩ | ⟨l, p, e, e1, e2, e3, e4, e5, e6, e7⟩
  · left
    rw [locklesslaw02_OrderWeaker.l0, if_pos (by omega), e1, e2]
    simp only [Option.bind_some]
    rw [Kind_in x hx, Is_in y hy, e3]
    simp [locklesslaw02_OrderWeaker.j1]
  · right
    rw [locklesslaw02_OrderWeaker.l0, if_pos (by omega), e1, e2]
    simp only [Option.bind_some]
    rw [Kind_in x hx, Is_in y hy, e3]
    simp only [Option.bind_some, if_true]
    rw [locklesslaw02_OrderWeaker.j1, e4]
    simp only [Option.bind_some]
    rw [e5]
    by_cases h5 : x = 5
    · obtain ⟨rfl, rfl⟩ := e7 h5
      simp [locklesslaw02_OrderWeaker.j2, h5]
    · obtain ⟨e6, rfl⟩ := e6 h5
      simp [locklesslaw02_OrderWeaker.j2, h5, e6]
theorem each_round (a b x y r : Int) (hr : r = 0 ∨ r = 1) (k : Nat) (hk : k = 96 ∨ k = 94 ∨ k = 93) : locklesslaw02_OrderWeaker.l0 (k + 4) a b x y r = locklesslaw02_OrderWeaker.l0 (k + 2) a b a b (wrap64 (r + 1)) ∨ locklesslaw02_OrderWeaker.l0 (k + 4) a b x y r = locklesslaw02_OrderWeaker.l0 (k + 1) a b a b (wrap64 (r + 1)) := by
  by_cases hx : 0 ≤ x ∧ x < 6
  · by_cases hy : 0 ≤ y ∧ y < 5
    · exact in_round a b x y r hr hx hy k hk
    · exact .inl (out_round a b x y r (by omega) (.inr hy) k)
  · exact .inl (out_round a b x y r (by omega) (.inl hx) k)
theorem last_round (a b x y : Int) (k : Nat) (hk : k = 94 ∨ k = 93) : locklesslaw02_OrderWeaker.l0 (k + 4) a b x y 1 = some true := by
  rcases each_round a b x y 1 (.inr rfl) k (by omega) with h | h <;> rw [h, show wrap64 (1 + 1) = 2 from by unfold wrap64; rfl] <;> rfl
theorem OrderWeaker : locklesslaw02_OrderWeaker.Pure := by
  intro a0 a1 _ _
  refine ⟨100, ?_⟩
  unfold locklesslaw02_OrderWeaker.f
  have hw : locklesslaw02_awake.f 100 = some true := by kernel_rfl
  obtain ⟨v0, e0⟩ := one_some a0 5 (by decide) (by decide)
  obtain ⟨v1, e1⟩ := one_some a1 4 (by decide) (by decide)
  rw [hw, e0, e1]
  simp only [Option.bind_some, if_true]
  rcases each_round a0 a1 v0 v1 0 (.inl rfl) 96 (.inl rfl) with h | h <;> rw [h, show wrap64 (0 + 1) = 1 from by unfold wrap64; rfl]
  · exact last_round a0 a1 a0 a1 94 (.inl rfl)
  · exact last_round a0 a1 a0 a1 93 (.inr rfl)

end Go.Proofs.Ytjiblcngjfbcmaa.Pure
