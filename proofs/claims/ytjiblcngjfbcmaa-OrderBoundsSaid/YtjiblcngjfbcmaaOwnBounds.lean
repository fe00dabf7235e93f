/- Join is the least upper bound and Meet the greatest lower bound: the walk of OrderBounds itself; no condition. -/
import Derived.Test.YtjiblcngjfbcmaaPOrderBoundsx1
import Derived.KernelRfl
import Derived.Lib.Hide
namespace Go.Proofs.Ytjiblcngjfbcmaa.OwnBounds
open Go.RowKit Go.Proofs.Ytjiblcngjfbcmaa.POrderBounds Go.Proofs.YtjiblcngjfbcmaaW.PrintWords Go.Proofs.YtjiblcngjfbcmaaW.PrintLast Go.Proofs.YtjiblcngjfbcmaaW.PrintMore
set_option linter.unusedVariables false
set_option linter.unusedSimpArgs false

def lb (x y : Int) : Bool := (locklesslaw02_least.f x y).getD false
theorem isO_some (x : Int) : ∃ b, order_isOrder.f x = some b := by unfold order_isOrder.f; split <;> exact ⟨_, rfl⟩
theorem bits_some (x : Int) : ∃ b, order_bits.f x = some b := by unfold order_bits.f; split <;> exact ⟨_, rfl⟩
theorem covers_some (x y : Int) : ∃ b, order_covers.f x y = some b := by
  obtain ⟨a, ha⟩ := bits_some x
  obtain ⟨b, hb⟩ := bits_some y
  unfold order_covers.f
  rw [ha, hb]
  exact ⟨_, rfl⟩
theorem atLeast_some (x y : Int) : ∃ b, order_AtLeast.f x y = some b := by
  obtain ⟨a, ha⟩ := isO_some x
  obtain ⟨b, hb⟩ := isO_some y
  obtain ⟨c, hc⟩ := covers_some x y
  unfold order_AtLeast.f
  rw [ha, hb, hc]
  simp only [Option.bind_some]
  split
  · split <;> exact ⟨_, rfl⟩
  · exact ⟨_, rfl⟩
theorem least_some (x y : Int) : ∃ b, locklesslaw02_least.f x y = some b := by
  obtain ⟨a, ha⟩ := atLeast_some x y
  unfold locklesslaw02_least.f
  rw [ha]
  simp only [Option.bind_some]
  split <;> exact ⟨_, rfl⟩
theorem least_any (x y : Int) (w : World) : Calls Try.prog 21 #[.int .i64 x, .int .i64 y] w fun e w' => e = .returned (.bool (lb x y)) ∧ ∃ n, w' = w.drewN n := by
  obtain ⟨b, h⟩ := least_some x y
  have e : lb x y = b := by unfold lb; rw [h]; rfl
  rw [e]
  exact (locklesslaw02_least.calls x y b w h).mono fun e w' ⟨h1, h2⟩ => ⟨h1, h2.out⟩
theorem awake_any (w : World) : Calls Try.prog 12 #[] w fun e w' => e = .returned (.bool true) ∧ Below w.heap.size w w' :=
  locklesslaw02_awake.calls 40 true w (by kernel_rfl)

theorem tmod_range (a m : Int) (hm : 0 < m) (hm2 : m < 100) : 0 ≤ wrap64 (Int.tmod (IntKind.u64.wrap a) m) ∧ wrap64 (Int.tmod (IntKind.u64.wrap a) m) < m := by
  have h0 : 0 ≤ IntKind.u64.wrap a := by
    simp only [IntKind.wrap, IntKind.signed, IntKind.bits, Bool.false_and]
    exact Int.emod_nonneg _ (by decide)
  rw [Int.tmod_eq_emod_of_nonneg h0]
  have h1 := Int.emod_nonneg (IntKind.u64.wrap a) (Int.ne_of_gt hm)
  have h2 := Int.emod_lt_of_pos (IntKind.u64.wrap a) hm
  unfold wrap64
  omega

def V (a : Int) : Prop := 0 ≤ a ∧ a < 5
theorem all5 (P : Int → Prop) (h0 : P 0) (h1 : P 1) (h2 : P 2) (h3 : P 3) (h4 : P 4) : ∀ x, V x → P x := fun x h => by
  obtain ⟨ha, hb⟩ := h
  obtain rfl | rfl | rfl | rfl | rfl : x = 0 ∨ x = 1 ∨ x = 2 ∨ x = 3 ∨ x = 4 := by omega
  all_goals assumption
theorem five3 (P : Int → Int → Int → Bool) (h : ([0, 1, 2, 3, 4] : List Int).all (fun x => ([0, 1, 2, 3, 4] : List Int).all fun y => ([0, 1, 2, 3, 4] : List Int).all fun z => P x y z) = true) (x y z : Int) (hx : V x) (hy : V y) (hz : V z) : P x y z = true := by
  have m : ∀ u, V u → u ∈ ([0, 1, 2, 3, 4] : List Int) := fun u hu => by obtain ⟨ha, hb⟩ := hu; simp; omega
  exact List.all_eq_true.1 (List.all_eq_true.1 (List.all_eq_true.1 h x (m x hx)) y (m y hy)) z (m z hz)
theorem lb_refl (x : Int) (hx : V x) : lb x x = true := five3 (fun x _ _ => lb x x) (by decide +kernel) x x x hx hx hx
theorem lb_zero (x : Int) (hx : V x) : lb x 0 = true := five3 (fun x _ _ => lb x 0) (by decide +kernel) x x x hx hx hx
theorem lb_four (x : Int) (hx : V x) : lb 4 x = true := five3 (fun x _ _ => lb 4 x) (by decide +kernel) x x x hx hx hx
theorem lb_anti (x y : Int) (hx : V x) (hy : V y) (h1 : lb x y = true) (h2 : lb y x = true) : x = y := by
  have := five3 (fun x y _ => !(lb x y && lb y x) || x == y) (by decide +kernel) x y y hx hy hy
  simpa [h1, h2] using this
theorem lb_trans (x y z : Int) (hx : V x) (hy : V y) (hz : V z) (h1 : lb x y = true) (h2 : lb y z = true) : lb x z = true := by
  have := five3 (fun x y z => !(lb x y && lb y z) || lb x z) (by decide +kernel) x y z hx hy hz
  simpa [h1, h2] using this
theorem lb_12 : lb 1 2 = false := by decide +kernel
theorem lb_21 : lb 2 1 = false := by decide +kernel

def jn (x y : Int) : Int := ((order_Join.f 40 x y).getD (0, 0)).1
def mt (x y : Int) : Int := ((order_Meet.f 40 x y).getD (0, 0)).1
theorem join_eq (x y : Int) (hx : V x) (hy : V y) : order_Join.f 40 x y = some (jn x y, 0) := by
  have := five3 (fun x y _ => decide (order_Join.f 40 x y = some (jn x y, 0))) (by decide +kernel) x y y hx hy hy
  simpa using this
theorem meet_eq (x y : Int) (hx : V x) (hy : V y) : order_Meet.f 40 x y = some (mt x y, 0) := by
  have := five3 (fun x y _ => decide (order_Meet.f 40 x y = some (mt x y, 0))) (by decide +kernel) x y y hx hy hy
  simpa using this
theorem join_any (x y : Int) (hx : V x) (hy : V y) (w : World) : Calls Try.prog 27 #[.int .i64 x, .int .i64 y] w fun e w' => e = .returned (.tuple #[.int .i64 (jn x y), .int .i64 0]) ∧ ∃ n, w' = w.drewN n :=
  (order_Join.calls 40 x y _ _ w (join_eq x y hx hy)).mono fun e w' ⟨h1, h2⟩ => ⟨h1, h2.out⟩
theorem meet_any (x y : Int) (hx : V x) (hy : V y) (w : World) : Calls Try.prog 28 #[.int .i64 x, .int .i64 y] w fun e w' => e = .returned (.tuple #[.int .i64 (mt x y), .int .i64 0]) ∧ ∃ n, w' = w.drewN n :=
  (order_Meet.calls 40 x y _ _ w (meet_eq x y hx hy)).mono fun e w' ⟨h1, h2⟩ => ⟨h1, h2.out⟩
theorem j1 (x y : Int) (hx : V x) (hy : V y) : lb (jn x y) x = true := five3 (fun x y _ => lb (jn x y) x) (by decide +kernel) x y y hx hy hy
theorem j2 (x y : Int) (hx : V x) (hy : V y) : lb (jn x y) y = true := five3 (fun x y _ => lb (jn x y) y) (by decide +kernel) x y y hx hy hy
theorem m1 (x y : Int) (hx : V x) (hy : V y) : lb x (mt x y) = true := five3 (fun x y _ => lb x (mt x y)) (by decide +kernel) x y y hx hy hy
theorem m2 (x y : Int) (hx : V x) (hy : V y) : lb y (mt x y) = true := five3 (fun x y _ => lb y (mt x y)) (by decide +kernel) x y y hx hy hy
theorem jl (x y z : Int) (hx : V x) (hy : V y) (hz : V z) (h1 : lb z x = true) (h2 : lb z y = true) : lb z (jn x y) = true := by
  have := five3 (fun x y z => !(lb z x && lb z y) || lb z (jn x y)) (by decide +kernel) x y z hx hy hz
  simpa [h1, h2] using this
theorem ml (x y z : Int) (hx : V x) (hy : V y) (hz : V z) (h1 : lb x z = true) (h2 : lb y z = true) : lb (mt x y) z = true := by
  have := five3 (fun x y z => !(lb x z && lb y z) || lb (mt x y) z) (by decide +kernel) x y z hx hy hz
  simpa [h1, h2] using this
theorem jc (x y : Int) (hx : V x) (hy : V y) : jn y x = jn x y := by
  have := five3 (fun x y _ => decide (jn y x = jn x y)) (by decide +kernel) x y y hx hy hy
  simpa using this
theorem mc (x y : Int) (hx : V x) (hy : V y) : mt y x = mt x y := by
  have := five3 (fun x y _ => decide (mt y x = mt x y)) (by decide +kernel) x y y hx hy hy
  simpa using this
theorem je (x y : Int) (hx : V x) (hy : V y) : lb x y = (jn x y == x) := by
  have := five3 (fun x y _ => decide (lb x y = (jn x y == x))) (by decide +kernel) x y y hx hy hy
  simpa using this
theorem me (x y : Int) (hx : V x) (hy : V y) : lb x y = (mt x y == y) := by
  have := five3 (fun x y _ => decide (lb x y = (mt x y == y))) (by decide +kernel) x y y hx hy hy
  simpa using this

set_option maxHeartbeats 4000000 in
set_option maxRecDepth 100000 in
theorem bounds_any (a0 a1 a2 : Int) (w : World) : Calls Try.prog 7 #[.int .i64 a0, .int .i64 a1, .int .i64 a2] w fun e w' => e = .returned (.bool true) ∧ Below w.heap.size w w' := by
  have v0 : V _ := tmod_range a0 5 (by decide) (by decide)
  have v1 : V _ := tmod_range a1 5 (by decide) (by decide)
  have v2 : V _ := tmod_range a2 5 (by decide) (by decide)
  have f1 := j1 _ _ v0 v1
  have f2 := j2 _ _ v0 v1
  have f3 := m1 _ _ v0 v1
  have f4 := m2 _ _ v0 v1
  have f5 := jc _ _ v0 v1
  have f6 := mc _ _ v0 v1
  have H1 := Lib.hid (je _ _ v0 v1)
  have H2 := Lib.hid (me _ _ v0 v1)
  go_enter Try.func7, Try.ntmps7
  go_wp2_with (first | (go_at_call 12; refine (awake_any _).mono ?_; rintro e w1 ⟨rfl, hb⟩) | (go_at_call 27; refine (join_any _ _ (by assumption) (by assumption) _).mono ?_; rintro e w2 ⟨rfl, ⟨nd, rfl⟩⟩) | (go_at_call 28; refine (meet_any _ _ (by assumption) (by assumption) _).mono ?_; rintro e w2 ⟨rfl, ⟨nd, rfl⟩⟩) | (go_at_call 21; refine (least_any _ _ _).mono ?_; rintro e w2 ⟨rfl, ⟨nd, rfl⟩⟩))
  all_goals first
    | exact absurd (jl _ _ _ v0 v1 v2 (by assumption) (by assumption)) (by assumption)
    | exact absurd H1.out (by assumption)
    | (exfalso; have h1 : lb (wrap64 (Int.tmod (IntKind.u64.wrap a0) 5)) (wrap64 (Int.tmod (IntKind.u64.wrap a2) 5)) = true := by assumption
       have h2 : lb (wrap64 (Int.tmod (IntKind.u64.wrap a1) 5)) (wrap64 (Int.tmod (IntKind.u64.wrap a2) 5)) = true := by assumption
       have h3 : (!lb (mt (wrap64 (Int.tmod (IntKind.u64.wrap a0) 5)) (wrap64 (Int.tmod (IntKind.u64.wrap a1) 5))) (wrap64 (Int.tmod (IntKind.u64.wrap a2) 5))) = true := by assumption
       rw [ml _ _ _ v0 v1 v2 h1 h2] at h3; exact absurd h3 (by decide))
    | (go_ret; exact ⟨by first | (rw [H2.out]; simp; done) | (rw [← H1.out, H2.out]; simp; done), by repeat (first | exact hb | apply pw_below_drewN | apply below_drew1)⟩)
theorem bounds_walk (a0 a1 a2 : Int) (w : World) (w0 : (Lit.int .i64 a0).wf = true) (w1 : (Lit.int .i64 a1).wf = true) (w2 : (Lit.int .i64 a2).wf = true) : Calls Try.prog 7 #[.int .i64 a0, .int .i64 a1, .int .i64 a2] w fun e w' => e = .returned (.bool true) ∧ Below w.heap.size w w' :=
  bounds_any a0 a1 a2 w
end Go.Proofs.Ytjiblcngjfbcmaa.OwnBounds
