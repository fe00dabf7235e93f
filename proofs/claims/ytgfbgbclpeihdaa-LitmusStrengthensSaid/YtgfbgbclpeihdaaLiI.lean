/- The outcome of an interleaving, walked: plain lemmas; no condition. -/
import Derived.Test.YtgfbgbclpeihdaaLiH
import Derived.Test.YtgfbgbclpeihdaaCore
namespace Go.Proofs.Ytgfbgbclpeihdaa.Li
open Go.RowKit Go.Proofs.YtgfbgbclpeihdaaW.PrintWords Go.Proofs.YtgfbgbclpeihdaaW.PrintLast Go.Proofs.YtgfbgbclpeihdaaW.PrintMore
set_option linter.unusedVariables false
set_option linter.unusedSimpArgs false
set_option maxHeartbeats 8000000
set_option maxRecDepth 100000
def T39 : Bool × List (List Nat × List Nat) := (true, [([], []), ([0], [0]), ([1], [1]), ([], []), ([3], [3]), ([2, 4, 2], [2, 4]), ([5, 5, 0, 1, 2, 3, 4, 5], [5])])
def B39 : List Nat := [0, 1, 3, 0, 8, 31, 63]
theorem tab39 : rtab .any (opsOf Try.f39 1) = T39 := by kernel_rfl
theorem bits39 : waitsOk T39.2 B39 = true := by kernel_rfl
theorem words_row {w : World} {g : Nat} {w0 w1 w2 : Int} {rest : List Value} (h : w.heap[g]? = some (.cells (.int .i64 w0 :: .int .i64 w1 :: .int .i64 w2 :: rest).toArray 53 (0, 0))) : Kd.C (Kd.int .i64) w (some ⟨g, 0, none⟩) 3 [w0, w1, w2] := by
  refine Kd.C_of_reads (d := (0 : Int)) (h1 := fun _ => rfl) ?_
  refine ⟨rfl, by decide, fun _ => ⟨_, rfl, fun j hj => ?_⟩⟩
  have e : (⟨g, 0, none⟩ : Addr).add j = ⟨g, j, none⟩ := by
    unfold Addr.add
    by_cases h0 : j = 0
    · subst h0; rfl
    · simp [h0]
  rw [e]
  match j, hj with
  | 0, _ => exact (Go.Lib.cell_of_heap h 0).trans rfl
  | 1, _ => exact (Go.Lib.cell_of_heap h 1).trans rfl
  | 2, _ => exact (Go.Lib.cell_of_heap h 2).trans rfl
  | j + 3, h => exact absurd h (by omega)
theorem outcome_calls (w0 w1 w2 n0 n1 n2 : Int) (X : Nat → List Int) (A : Nat → Option Addr) (C : Nat → Nat) (w : World) (hr : ∀ k, k < 3 → Kd.C (Kd.int .i64) w (A k) (X k).length (X k)) (hl : ∀ k, k < 3 → (X k).length ≤ 100000) :
    Calls Try.prog 39 #[.agg #[.int .i64 w0, .int .i64 w1, .int .i64 w2, .int .i64 n0, .int .i64 n1, .int .i64 n2, .slice (A 0) (X 0).length (C 0), .slice (A 1) (X 1).length (C 1), .slice (A 2) (X 2).length (C 2)]] w fun e w' => ∃ v, e = .returned v ∧ Kd.R (Kd.int .i64) 3 w' w.heap.size (fun _ => True) v (cat X 3 ++ [w0, w1, w2]) ∧ Below w.heap.size w w' := by
  have n1_ := heap_alloc_new w (.cells #[.int .i64 w0, .int .i64 w1, .int .i64 w2, .int .i64 n0, .int .i64 n1, .int .i64 n2, .slice (A 0) (X 0).length (C 0), .slice (A 1) (X 1).length (C 1), .slice (A 2) (X 2).length (C 2)] 53 (0, 0))
  have b1 := al1 w (.cells #[.int .i64 w0, .int .i64 w1, .int .i64 w2, .int .i64 n0, .int .i64 n1, .int .i64 n2, .slice (A 0) (X 0).length (C 0), .slice (A 1) (X 1).length (C 1), .slice (A 2) (X 2).length (C 2)] 53 (0, 0))
  have BK := Aside0.mk (blk_drew n1_)
  have HB := Aside0.mk (below_drew1 b1)
  have HRR := Aside0.mk (fun k (hk : k < 3) => Kd.C_below (hr k hk) b1)
  have HLL := Aside0.mk hl
  have hcl := cat_len X 3 hl
  have HCL := Aside0.mk hcl
  clear hr hl n1_ b1 hcl
  go_enter Try.func39, Try.ntmps39
  go_wp2
  generalize w.alloc (.cells #[.int .i64 w0, .int .i64 w1, .int .i64 w2, .int .i64 n0, .int .i64 n1, .int .i64 n2, .slice (A 0) (X 0).length (C 0), .slice (A 1) (X 1).length (C 1), .slice (A 2) (X 2).length (C 2)] 53 (0, 0)) = W2 at *
  refine start_ (n := 7) (S := fun _ => True) (ds := []) #[false, false, false, false, false, false, false] (by kernel_rfl) rfl rfl trivial (fun hHeld => ?_); refine with_tabW tab39 bits39 (fun HT_ HW_ => ?_)
  have HC3 := Aside0.mk (concat_calls W2.drew w.heap.size X A C (fun k hk => by
    match k, hk with
    | 0, _ => exact (Go.Lib.cell_of_heap BK.out 6).trans rfl
    | 1, _ => exact (Go.Lib.cell_of_heap BK.out 7).trans rfl
    | 2, _ => exact (Go.Lib.cell_of_heap BK.out 8).trans rfl
    | k + 3, h => exact absurd h (by omega)) (fun k hk => HRR.out k hk) HLL.out)
  generalize W2.drew = W3 at BK HB HC3 ⊢
  refine pure_ (i := 0) (N := some 3) (v := ?_) (a' := ?_) #[true, false, false, false, false, false, false] rfl rfl (any_of HT_.out (by kernel_rfl)) (fun _ _ _ h => h) (Or.inl ⟨by rfl, ?_⟩) ?_ ?_
  rotate_left
  · intro w'
    go_simp
    with_reducible rfl
  rotate_left
  · simp only [Act.put, List.setIfInBounds_toArray, List.set_cons_zero, List.set_cons_succ, i64_w, i32_w]
    rfl
  refine pure_ (i := 1) (N := some 4) (v := ?_) (a' := ?_) #[true, true, false, false, false, false, false] rfl rfl (any_of HT_.out (by kernel_rfl)) (fun _ _ _ h => h) (Or.inl ⟨by rfl, ?_⟩) ?_ ?_
  rotate_left
  · intro w'
    go_simp
    with_reducible rfl
  rotate_left
  · simp only [Act.put, List.setIfInBounds_toArray, List.set_cons_zero, List.set_cons_succ, i64_w, i32_w]
    rfl
  refine pure_ (i := 3) (N := some 6) (v := ?_) (a' := ?_) #[true, true, false, true, false, false, false] rfl rfl (any_of HT_.out (by kernel_rfl)) (fun _ _ _ h => h) (Or.inl ⟨by rfl, ?_⟩) ?_ ?_
  rotate_left
  · intro w'
    go_simp
    with_reducible rfl
  rotate_left
  · simp only [Act.put, List.setIfInBounds_toArray, List.set_cons_zero, List.set_cons_succ, i64_w, i32_w]
    rfl
  refine pure_ (i := 4) (N := some 7) (v := ?_) (a' := ?_) #[true, true, false, true, true, false, false] rfl rfl (any_of HT_.out (by kernel_rfl)) (fun _ _ _ h => h) (Or.inl ⟨by rfl, ?_⟩) ?_ ?_
  rotate_left
  · intro w'
    go_simp
    with_reducible rfl
  rotate_left
  · simp only [Act.put, List.setIfInBounds_toArray, List.set_cons_zero, List.set_cons_succ, i64_w, i32_w]
    rfl
  refine one_ (i := 2) (N := some 5) #[true, true, true, true, true, false, false] rfl rfl (one_of HT_.out (by kernel_rfl)) (by decide) (fun K hK => ?_)
  refine goes_ Try.func67 (by kernel_rfl) rfl #[.slice (some ⟨w.heap.size, 6, none⟩) 3 3] (by rfl) rfl rfl (by (try simp only [List.map_toArray, List.map_cons, List.map_nil]); first | done | rfl) ?_
  refine HC3.out.mono ?_
  rintro e w4 ⟨v4, rfl, ho, hb⟩
  refine ⟨_, rfl, ?_⟩
  have HO4 := Aside0.mk (Kd.R_lower ho (show w.heap.size ≤ W3.heap.size from HB.out.size))
  have BK4 := Aside0.mk ((hb.block _ (blk_lt BK.out)).trans BK.out)
  have HB4 := Aside0.mk (btrans HB.out hb)
  clear ho hb BK HB HC3
  refine hK.out _ _ trivial (fun hHeld => ?_)
  clear hK K
  refine norm_ (a' := ?_) ?_ ?_
  rotate_left
  · show Act.put _ (some 5) _ = _
    simp only [Act.put, List.setIfInBounds_toArray, List.set_cons_zero, List.set_cons_succ, i64_w, i32_w]
    rfl
  refine one_ (i := 5) (N := some 8) #[true, true, true, true, true, true, false] rfl rfl (one_of HT_.out (by kernel_rfl)) (by decide) (fun K hK => ?_)
  refine Kd.R_append_rows_step (Kd.int .i64) (w0 := w) w.heap.size (by rfl) (.tmp 5) (.tmp 7) 46 3 (.int .i64 0) 8 rfl Try.underlying46 info3 rfl (by decide) (by omega) v4 (cat X 3) [w0, w1, w2] (some ⟨w.heap.size, 0, none⟩) 3 3 (fun _ => True) (fun _ => False) rfl rfl ?aO ?aR (fun _ _ h => h) (fun _ h => h.elim) ?aF ?aB ?aS ?aL ?_
  (case aR => exact words_row BK4.out)
  (case aB => exact HB4.out)
  (case aF => exact (fun _ _ => trivial))
  (case aO => exact HO4.out)
  (case aS => exact HB4.out.size)
  (case aL => have := HCL.out; omega)
  intro v5 w5 ho hb hg hat
  have HO5 := Aside0.mk ho
  have HB5 := Aside0.mk hb
  clear ho hb hg hat
  refine hK.out _ _ trivial (fun hHeld => ?_)
  clear hK K
  refine norm_ (a' := ?_) ?_ ?_
  rotate_left
  · show Act.put _ (some 8) _ = _
    simp only [Act.put, List.setIfInBounds_toArray, List.set_cons_zero, List.set_cons_succ, i64_w, i32_w]
    rfl
  refine pure_ (i := 6) (N := some 2) (v := ?_) (a' := ?_) #[true, true, true, true, true, true, true] rfl rfl (any_of HT_.out (by kernel_rfl)) (fun _ _ _ h => h) (Or.inl ⟨by rfl, ?_⟩) ?_ ?_
  rotate_left
  · intro w'
    go_simp
    with_reducible rfl
  rotate_left
  · simp only [Act.put, List.setIfInBounds_toArray, List.set_cons_zero, List.set_cons_succ, i64_w, i32_w]
    rfl
  refine done_ (done_of HT_.out (by kernel_rfl)) ?_
  try go_wp2
  go_ret
  exact ⟨_, rfl, HO5.out, HB5.out⟩
end Go.Proofs.Ytgfbgbclpeihdaa.Li
